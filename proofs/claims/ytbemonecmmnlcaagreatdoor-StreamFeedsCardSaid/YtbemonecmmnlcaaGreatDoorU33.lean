/- The texts of T33, in few letters (mini.py). -/
import Derived.Test.YtbemonecmmnlcaaGreatDoorU32
set_option linter.unusedVariables false
set_option linter.unusedSimpArgs false
set_option maxRecDepth 20000
set_option maxHeartbeats 6400000
namespace Go.Proofs.YtbemonecmmnlcaaGreatDoor
section
open Go.RowKit
def dT(ta:Option Addr)(tn tc:Nat)(en:Bool)(at_:Nat):List Value:=[.slice ta tn tc,.bool en,.int .i64 (at_:Nat)]
theorem Uz:(Tryz.prog.info? 69).map (·.size)=some 263:=by kernel_rfl
theorem cO(V:au)(ta:Option Addr)(tn tc:Nat)(en:Bool)(at_:Nat):(Tryz.prog.info? 69).map (·.size)=some (sC V (dT ta tn tc en at_)).size:=by rw[dW];exact Uz
theorem Box.sLo{w:World}{b E:Nat}{V:au}{t:List Value}(h:Box w b (sC V t) E):w.rangeAt b 0 V.cells.toList:=fun j v hv=>by
 have hj:j<260:=by have:=(List.getElem?_eq_some_iff.1 hv).1;rwa[Array.length_toList,au.size] at this
 rw[h.cell,Nat.zero_add,tV _ _ _ hj,←Array.getElem?_toList]
 exact hv
theorem pO{P:Program}{ops:Array Oper}{rest:List Oper}{op:Oper}{a:Act}{w:World}{Q:Exit→Act→World→Prop}(hw:Region.wanted op (yielded ops a.tmps)=true)(ty:TypeId)(x:Operand)(ho:op.op=.load ty x)
  (b:Nat) (hx:a.eval x=.pointer (some ⟨b,0,none⟩)) {V:au} {t:List Value} {E:TypeId} (hb:Box w b (sC V t) E) {d:TypeDesc}
  (hu:P.underlying ty=some d) (hd:d.isRow=true) (hi:(P.info? ty).map (·.size)=some V.cells.size)
  (h:wpList P ops Q rest (a.put op.dst (.agg V.cells)) w):wpList P ops Q (op::rest) a w :=
 zo hw ty x ho b 0 hx V.cells.toList d hb.sLo hu hd (by rw[Array.length_toList];exact hi) h
theorem Qp{P:Program}{o:Oper}{a:Act}{w:World}(ty:TypeId)(x:Operand)(ho:o.op=.load ty x)(b:Nat)(hx:a.eval x=.pointer (some ⟨b,0,none⟩)){V:au}{t:List Value}{E:TypeId}(hb:Box w b (sC V t) E){d:TypeDesc}
  (hu:P.underlying ty=some d) (hd:d.isRow=true) (hi:(P.info? ty).map (·.size)=some V.cells.size):(execOp a.eval o).run P w=.ok (.value (.agg V.cells)) w :=
 GY ty x ho b 0 hx hb.sLo hu hd (by rw[Array.length_toList];exact hi)
theorem Nz(V:au)(D:ay)(W:List UInt8)(ta:Option Addr)(m tc:Nat)(en:Bool)(at_:Nat)(w:World)(h:dN w V D)(hr:dS D=true)(hT:ak w (.slice ta m tc) 1 bf W)(hat:at_≤m) :
  Calls Tryz.prog 89 #[.agg (sC V (dT ta m tc en at_))] w (bM w (.bool (dZ D en (W.drop at_)))):=by
 have hW:=yM hr
 obtain⟨n,wd,lb,lo,nb,no,rb,ro,rc,hM⟩:=machC h hW
 have hV:=h.1
 obtain⟨tb,ES,hm,htc,adU,hta,htx⟩:=ak.bY (f:=fun x:UInt8=>Value.int .u8 (x.toNat:Nat)) hT
 have hbx:=Box.new w (sC V (dT ta m tc en at_)) 69
 have hB0:=aj w (.cells (sC V (dT ta m tc en at_)) 69)
 have yS:=ah (fun u (hu:Below w.heap.size w u)=>Zf V D u (h.kept hu) hr)
 have HTO:=ah (fun(s:Nat) (b:UInt8) (hs:s<n) u (hu:Below w.heap.size w u)=>SY V D w u hV n wd lb lo nb no rb ro rc hM hu s b hs)
 obtain⟨S,hS⟩:∃ S,dZ D en (W.drop at_)=S:=⟨_,rfl⟩
 obtain⟨st,hst⟩:∃ st:Nat→Nat,st=fun j=>bD D 0 ((W.drop at_).take j):=⟨_,rfl⟩
 have hdl:(W.drop at_).length=m - at_:=by rw[List.length_drop,hm]
 have st0:st 0=0:=by rw[hst];rfl
 have stl:∀ j,st j<n:=fun j=>by rw[hst];exact hM.run _ (by have:=hM.ER;omega)
 have stn:∀ j (hj:at_+j<W.length),st (j+1)=jO D (st j) W[at_+j]:=fun j hj=>by
  rw[hst]
  show bD D 0 ((W.drop at_).take (j+1))=_
  rw[List.take_succ_eq_append_getElem (by rw[List.length_drop];omega),BG,List.getElem_drop]
 have hSY:∀ j,0<j→j≤m - at_→fP D (st j)=false→S=true:=fun j h0 h1 hd=>by rw[←hS];rw[hst] at hd;exact Kt en h0 (by rw[hdl];exact h1) hd
 have zf:(∀ i,0<i→i≤m - at_→fP D (st i)=true)→S=en:=fun hd=>by rw[←hS];rw[hst] at hd;exact Us en (fun i h0 h1=>hd i h0 (by rw[←hdl];exact h1))
 rw[hS]
 have HSY:=ah hSY;have HSN:=ah zf;have aoE:=ah st0;have akh:=ah stl;have aoF:=ah stn;have HTA:=ah hta;have HTX:=ah htx;have HWM:=ah hm;have Ny:=ah hM.nl
 have hm63:m≤9223372036854775807:=by omega
 clear h hr hT hM hV hW hta htx hS hst hdl st0 stl stn hSY zf hm
 go_enter Tryz.func89,Tryz.ntmps89
 go_wp2_with (first | (refine pO (by rfl) 27 _ rfl w.heap.size rfl hbx Tryz.underlying27 rfl (aZ V) ?_) | (go_at_call 129;go_must (refine(yS.out _ hB0).mono ?_;rintro e wl ⟨l,la,ln,lc,rfl,hsl,hlv,hb1⟩;have hx1:=hbx.kept hb1;have y2:wl.cell? ⟨w.heap.size,262,none⟩=some (.int .i64 at_):=hx1.dH 2;have l1:=hx1.lt;have HB1:=ah (hB0.trans (hb1.mono hB0.size));have HX1:=ah hx1;have HSL:=ah hsl;have WX:=ah hlv;clear hx1 hsl hlv hb1)))
 clear y2 l1 hbx hB0 yS
 go_loopw [4,5] (fun v4 v5 wr=>∃ j:Nat,v4=.int .i64 (st j:Nat)∧v5=.int .i64 ((at_+j:Nat))∧at_+j≤m∧(∀ i,0<i→i≤j→fP D (st i)=true)∧Below wl.heap.size wl wr) (fun _ v5 _=>m - (intOf v5).toNat)
 case atStart=>exact⟨0,by rw[aoE.out];rfl,rfl,hat,fun i a b=>(by omega),Below.refl _ _⟩
 case round =>
  obtain⟨j,rfl,rfl,hj,hal,hB⟩:=hrel
  have hBw:=HB1.out.trans (hB.mono HB1.out.size)
  have hx:=HX1.out.kept hB
  have y0:wr.cell? ⟨w.heap.size,260,none⟩=some (.slice ta m tc):=hx.dH 0
  have y1:wr.cell? ⟨w.heap.size,261,none⟩=some (.bool en):=hx.dH 1
  have ly:=hx.lt
  by_cases hlt:at_+j<m
  ·have hjl:at_+j<W.length:=by rw[←HWM.out];exact hlt
   obtain rfl:=HTA.out (at_+j) hjl
   have hDr:Below wr.heap.size wr wr.drew:=(Below.refl _ _).drew
   have hto:=fun u hu=>HTO.out (st j) W[at_+j] (akh.out j) u hu
   rw[←aoF.out j hjl] at hto
   have hcx:=HTX.out (at_+j) hjl
   generalize W[at_+j]=b at *
   have HF:Hid (∀ u,Later wr.drew u→Box u w.heap.size (sC V (dT (some ⟨tb,ES,none⟩) m tc en at_)) 69∧u.cell? ⟨tb,ES+(at_+j),none⟩=some (.int .u8 (b.toNat:Nat))∧Calls Tryz.prog 109 #[.agg V.cells,.int .i64 (st j:Nat),.int .u8 (b.toNat:Nat)] u (bM u (.int .i64 (st (j+1):Nat)))∧Below wr.heap.size wr u):=ah fun u hu=>by
    have h1:Below wr.heap.size wr u:=hDr.trans (hu.mono hDr.size)
    have h2:Below w.heap.size w u:=hBw.trans (h1.mono hBw.size)
    exact⟨hx.kept h1,hcx u h2,hto u h2,h1⟩
   have hlv:xM l (st (j+1))=fP D (st (j+1)):=WX.out _ (by rw[Ny.out];exact akh.out _)
   have yS:=ah hlv;have zq:=ah hB;have gG:=ah hBw;have HAL:=ah hal
   have hji:((at_+j:Nat):Int)<(m:Int):=by omega
   have hj0:(0:Int)≤((at_+j:Nat):Int):=by omega
   clear hto hcx hDr hlv hB hBw hal hx
   generalize hk:at_+j=k at *
   have HK:=ah hk
   clear hk
   go_wp2_with fail
   refine aH (R:=Later) 10 (by kernel_rfl) ?_
   refine iZ 0 ?_ rfl (fun w1 hl=>?_) ?_
   rotate_left
   ·skip;go_simp;try with_reducible rfl
   simp only[eA,eB,Act.put,eD,eE,eF]
   refine iZ 1 (.agg V.cells) rfl (fun w1 hl=>?_) ?_
   ·exact Qp 27 _ rfl w.heap.size rfl (HF.out w1 hl).1 Tryz.underlying27 rfl (aZ V)
   simp only[List.getElem_toArray,List.getElem_cons_zero,List.getElem_cons_succ,Act.put,List.setIfInBounds_toArray,List.set_cons_zero,List.set_cons_succ]
   refine pl [2,3,4,5,6,7] ?_
   repeat
    refine gU ?_ rfl (fun w1 hl=>?_) ?_
    rotate_left
    ·obtain⟨q0,q1,_,_⟩:=HF.out w1 hl;have q2:w1.cell? ⟨w.heap.size,260,none⟩=some (.slice (some ⟨tb,ES,none⟩) m tc):=q0.dH 0;have l1:=World.block_lt_of_cell? w1 _ q1;have l2:=q0.lt;go_simp;try with_reducible rfl
    simp only[eA,eB,eC,Act.put,eD,eE,eF]
   refine dI ?_
   refine CW 8 ?_ ?_ ?_ rfl (fun w1=>?_) (fun w1 hl=>?_) ?_
   rotate_left 4
   ·exact(HF.out w1 hl).2.2.1
   rotate_left
   ·go_simp
   simp only[eA,eB,eC,Act.put,eD,eE,eF]
   refine iZ 9 ?_ rfl (fun w1 hl=>?_) ?_
   rotate_left
   ·skip;go_simp;try with_reducible rfl
   simp only[eA,eB,eC,Act.put,eD,eE,eF]
   refine aQ (by kernel_rfl) (fun w1 hl=>?_) _
   obtain⟨hx2,-,-,hq⟩:=HF.out w1 hl
   have HH:=ah (fun u (hu:Below w1.heap.size w1 u)=>G7 l la ln lc (st (j+1)) u (HSL.out.kept (zq.out.trans ((hq.trans (hu.mono hq.size)).mono zq.out.size))))
   have HQ:=ah hq
   clear HF hl hx2 hq y0 y1 ly
   cases hf:fP D (st (j+1)) with
   | false =>
    have HS:=ah (HSY.out (j+1) (by omega) (by have:=HK.out;omega) hf)
    have HE:=ah (yS.out.trans hf)
    clear hf
    go_wp2_with (go_at_call 130;go_must (refine(HH.out w1 (Below.refl _ _)).mono ?_;rw[HE.out];rintro e w5 ⟨rfl,hb5⟩))
    go_ret
    exact⟨by rw[HS.out];rfl,(gG.out.trans (HQ.out.mono gG.out.size)).trans (hb5.mono (gG.out.trans (HQ.out.mono gG.out.size)).size)⟩
   | true =>
    have HE:=ah (yS.out.trans hf)
    have aoG:Hid (∀ i,0<i→i≤j+1→fP D (st i)=true):=ah fun i h0 h1=>by
     by_cases e:i=j+1
     ·rw[e];exact hf
     ·exact HAL.out i h0 (by omega)
    clear hf
    go_wp2_with (go_at_call 130;go_must (refine(HH.out w1 (Below.refl _ _)).mono ?_;rw[HE.out];rintro e w5 ⟨rfl,hb5⟩))
    exact⟨⟨j+1,rfl,by have:=HK.out;push_cast;congr 1;omega,by have:=HK.out;omega,aoG.out,(zq.out.trans (HQ.out.mono zq.out.size)).trans (hb5.mono (zq.out.trans (HQ.out.mono zq.out.size)).size)⟩,by simp[intOf];omega⟩
  ·have HS:=ah (HSN.out (fun i h0 h1=>hal i h0 (by omega)))
   have hjm:¬ ((at_+j:Nat):Int)<(m:Int):=by omega
   have gG:=ah hBw
   clear hal hB hBw hx
   generalize at_+j=k at *
   go_wp2
   go_ret
   exact⟨by rw[HS.out];rfl,gG.out⟩
end
section
open Go.RowKit
theorem Kv{fn:Func}{p u:Tmp}{ty:TypeId}(h:fn.results=#[.tmp u,.cell p ty])(tmps:Array Value)(P:Program)(w:World) :
  (results fn tmps).run P w=((asAddr (tmps.getD p undef)).run P w).andThen fun a w1=>((loadVar ty a).run P w1).andThen fun v w2=>.ok (.tuple #[tmps.getD u undef,v]) w2:=by
 simp only[results,h]
 simp[Sem.run_bind,Result.andThen]
theorem oZ{P:Program}{fn:Func}{p u:Tmp}{ty:TypeId}(h:fn.results=#[.tmp u,.cell p ty])(tmps:Array Value)(w:World)(g E:Nat)(cs:Array Value)(v:Value)(hp:tmps.getD p undef=.pointer (some ⟨g,0,none⟩))(hv:tmps.getD u undef=v)(hb:Box w g cs E)
  {d:TypeDesc} (hu:P.underlying ty=some d) (hd:(match d with | .struct _ | .array _ _=>true | _=>false)=true) (hi:(P.info? ty).map (·.size)=some cs.size):(results fn tmps).run P w=.ok (.tuple #[v,.agg cs]) w:=by
 have ha:(asAddr (tmps.getD p undef)).run P w=.ok ⟨g,0,none⟩ w:=by rw[hp];simp[asAddr]
 rw[Kv h,ha]
 simp only[Result.andThen_ok,run_loadVar_row w g E ty cs (0,0) d hb hu hd hi,hv]
def nH:au:=⟨fun _=>0,0,none,0,0,none,0,0,none,0,0⟩
def z34:List Value:=[.slice none 0 0,.bool false,.int .i64 0]
theorem Qc:(Tryz.prog.info? 69).map (fun i=>(i.zero,i.size))=some (some (.agg (sC nH z34)),263):=by kernel_rfl
theorem vO(w:World):(zeroValue 69).run Tryz.prog w=.ok (.agg (sC nH z34)) w:=(zero_of_info Qc).1 w
theorem sF(V:au)(t:List Value)(h:t.all (·.oneCell')=true):(sC V t).all (·.oneCell')=true:=by
 unfold sC
 rw[Array.all_append,V.all,Bool.true_and,List.all_toArray]
 exact h
def atN(b:Nat)(w:World):Nat:=match w.cell? ⟨b,262,none⟩ with
 | some (.int _ k)=>k.toNat
 | _=>0
def alg(V:au)(L:List (Int×Nat×Nat))(ta:Option Addr)(m tc:Nat)(en:Bool)(at_:Nat)(w:World)(e:Ending)(w':World):Prop :=
 ∃ a n c,e=.returned (.tuple #[.slice a n c,.agg (sC V (dT ta m tc en at_))])∧Own w' w.heap.size 61 3 gK (.slice a n c) L∧Below w.heap.size w w'
theorem NC(V:au)(D:ay)(W:List UInt8)(ta:Option Addr)(m tc:Nat)(en:Bool)(at_:Nat)(w:World)(h:dN w V D)(hof:∀ b,V.of b<256)(hl:∀ x∈D.names,x.length≤9223372036854775807)(hr:dS D=true)(hT:ak w (.slice ta m tc) 1 bf W)(hat:at_≤m)(hmb:m≤1099511627776) :
  Calls Tryz.prog 87 #[.agg (sC V (dT ta m tc en at_))] w (alg V (kC D W en at_).1 ta m tc en (kC D W en at_).2 w):=by
 obtain⟨tb,ES,hm,htc,adU,-,-⟩:=ak.bY (f:=fun x:UInt8=>Value.int .u8 (x.toNat:Nat)) hT
 have hbx0:=Box.new w (sC V (dT ta m tc en at_)) 69
 have hB0:=aj w (.cells (sC V (dT ta m tc en at_)) 69)
 have hz1:Box ((w.alloc (.cells (sC V (dT ta m tc en at_)) 69)).alloc (.cells (sC nH z34) 69)) (w.heap.size+1) (sC nH z34) 69:=Box.new' (World.size_alloc _ _).symm _ _
 have dF:=hbx0.kept (aj (w.alloc (.cells (sC V (dT ta m tc en at_)) 69)) (.cells (sC nH z34) 69))
 have hB1:=hB0.alloc hB0.size (.cells (sC nH z34) 69)
 have hs1:((w.alloc (.cells (sC V (dT ta m tc en at_)) 69)).alloc (.cells (sC nH z34) 69)).heap.size=w.heap.size+1+1:=by simp
 have hO0:Own (((w.alloc (.cells (sC V (dT ta m tc en at_)) 69)).alloc (.cells (sC nH z34) 69)).alloc (.cells #[] 61)) (w.heap.size+2) 61 3 gK (.slice (some ⟨w.heap.size+1+1,0,none⟩) 0 0) []:=Own.empty' hs1.symm _ _ 3 gK (by rw[hs1];exact Nat.le_refl _)
 have HST:=ah (show _∧_∧_∧_ from⟨hO0,dF.kept (aj _ (.cells #[] 61)),hz1.kept (aj _ (.cells #[] 61)),hB1.alloc hB1.size (.cells #[] 61)⟩)
 have o9:=ah (fun(a:Nat) (ha:a≤m) u (hu:Below w.heap.size w u)=>Nz V D W ta m tc en a u (h.kept hu) hr (hT.kept hu) ha)
 have HN:=ah (fun(a:Nat) (ha:a≤m) u (hu:Below w.heap.size w u)=>by
  have h1:=Nq V D W ta m tc (a:Nat) u (h.kept hu) hof hl (hT.kept hu)
  rw[show zL D W (a:Nat)=AP D W a by unfold zL;rw[if_pos ⟨hr,by omega,by omega⟩,Int.toNat_natCast]] at h1
  exact h1)
 obtain⟨TK,G6⟩:∃ TK,kC D W en at_=TK:=⟨_,rfl⟩
 rw[G6]
 unfold kC at G6
 rw[←hm] at G6
 have uz:=ah G6
 have hTL:TK.1.length≤m+1:=by
  have key:∀ (f a:Nat),(mG D W en f a).1.length≤f:=fun f=>by
   induction f with
   | zero=>exact fun a=>Nat.le_refl _
   | succ f ih =>
    intro a
    rw[mG]
    split
    ·split
     ·exact Nat.zero_le _
     ·simp only[List.length_cons];exact Nat.succ_le_succ (ih _)
    ·exact Nat.zero_le _
  have:=key (m - at_+1) at_
  rw[G6] at this
  omega
 have HWM:=ah hm
 have hz0:=vO
 clear h hof hl hr hT hbx0 hB0 hz1 dF hB1 hO0 G6 hs1 hm
 go_enter Tryz.func87,Tryz.ntmps87
 go_wp2_with fail
 go_loopw [4] (fun v4 wr=>∃ (f a:Nat) (acc:List (Int×Nat×Nat)) (sa:Option Addr) (c:Nat),v4=.slice sa acc.length c∧a≤m∧Own wr (w.heap.size+2) 61 3 gK (.slice sa acc.length c) acc∧Box wr w.heap.size (sC V (dT ta m tc en a)) 69∧Box wr (w.heap.size+1) (sC nH z34) 69∧Below w.heap.size w wr∧acc++(mG D W en f a).1=TK.1∧(mG D W en f a).2=TK.2∧m - a<f) (fun _ wr=>m - atN w.heap.size wr)
 case atStart=>exact⟨m - at_+1,at_,[],_,0,rfl,hat,HST.out.1,HST.out.2.1,HST.out.2.2.1,HST.out.2.2.2,by rw[List.nil_append,uz.out],by rw[uz.out],by omega⟩
 case round =>
  clear HST
  obtain⟨f,a,acc,sa,c,rfl,ha,hown,hbx,hz,hB,h1,h2,hf⟩:=hrel
  obtain⟨f,rfl⟩:∃ f',f=f'+1:=⟨f - 1,by omega⟩
  rw[mG] at h1 h2
  have hacc:acc.length≤m+1:=by
   have e1:=congrArg List.length h1
   rw[List.length_append] at e1
   omega
  have agd:atN w.heap.size wr=a:=by
   unfold atN
   rw[show wr.cell? ⟨w.heap.size,262,none⟩=some (.int .i64 (a:Nat)) from hbx.dH 2]
   exact Int.toNat_natCast a
  rw[agd]
  have hzl:w.heap.size+2≤wr.heap.size:=hz.lt
  have gG:=ah hB;have HOWN:=ah hown;have HZ:=ah hz
  clear hB hown hz agd
  cases hs:dZ D en (W.drop a)
  focus
   rw[hs,if_neg (by decide)] at h1 h2
   rw[List.append_nil] at h1
   have H1:=ah (And.intro h1 h2)
   have Xk:=ah hs
   clear h1 h2 hs
   go_wp2_with (first | (refine aI (by rfl) 69 _ rfl w.heap.size rfl _ _ _ _ hbx Tryz.underlying69 rfl (cO V ta m tc en a) ?_) | (go_at_call 89;go_must (refine(o9.out a ha _ gG.out).mono ?_;rw[Xk.out];rintro e w5 ⟨rfl,hb5⟩)))
   have hD5:Below wr.heap.size wr w5.drew:=hb5.trans ((Below.refl _ _).drew.mono hb5.size)
   have HF:Hid (∀ u,Later w5.drew u→Box u w.heap.size (sC V (dT ta m tc en a)) 69∧Box u (w.heap.size+1) (sC nH z34) 69∧Own u (w.heap.size+2) 61 3 gK (.slice sa acc.length c) acc∧Below w.heap.size w u):=ah fun u hu=>by
    have q1:Below wr.heap.size wr u:=hD5.trans (hu.mono hD5.size)
    exact⟨hbx.kept q1,HZ.out.kept q1,HOWN.out.kept q1,gG.out.trans (q1.mono gG.out.size)⟩
   clear hbx hb5 hD5
  rotate_left
  focus
   rw[hs,if_pos rfl] at h1 h2
   have Xk:=ah hs
   have hnx:=fun u hu=>HN.out a ha u hu
   unfold AP at hnx
   cases htk:jm D W a
   focus
    rw[htk] at hnx h1 h2
    dsimp only at hnx h1 h2
    rw[List.append_nil] at h1
    have H1:=ah (And.intro h1 h2)
    have Gh:=ah hnx
    clear h1 h2 hs hnx htk
    go_wp2_with (first | (refine aI (by rfl) 69 _ rfl w.heap.size rfl _ _ _ _ hbx Tryz.underlying69 rfl (cO V ta m tc en a) ?_) | (go_at_call 89;go_must (refine(o9.out a ha _ gG.out).mono ?_;rw[Xk.out];rintro e w5 ⟨rfl,hb5⟩;have kJ:=hbx.kept hb5;have y0:w5.cell? ⟨w.heap.size,260,none⟩=some (.slice ta m tc):=kJ.dH 0;have y2:w5.cell? ⟨w.heap.size,262,none⟩=some (.int .i64 a):=kJ.dH 2;have ly:=kJ.lt)) | (refine pO (by rfl) 27 _ rfl w.heap.size rfl kJ Tryz.underlying27 rfl (aZ V) ?_) | (go_at_call 88;go_must (refine(Gh.out _ (gG.out.trans (hb5.mono gG.out.size))).mono ?_;rintro e w6 ⟨rfl,hb6⟩)))
    have hb7:Below wr.heap.size wr (w6.alloc (.cells #[.int .i64 0,.int .i64 0,.int .i64 0] 61)):=(hb5.trans (hb6.mono hb5.size)).alloc (hb5.trans (hb6.mono hb5.size)).size _
    clear hb5 hb6 kJ y0 y2 ly
    generalize w6.alloc (.cells #[.int .i64 0,.int .i64 0,.int .i64 0] 61)=w5 at *
    have hD5:Below wr.heap.size wr w5.drew:=hb7.trans ((Below.refl _ _).drew.mono hb7.size)
    have HF:Hid (∀ u,Later w5.drew u→Box u w.heap.size (sC V (dT ta m tc en a)) 69∧Box u (w.heap.size+1) (sC nH z34) 69∧Own u (w.heap.size+2) 61 3 gK (.slice sa acc.length c) acc∧Below w.heap.size w u):=ah fun u hu=>by
     have q1:Below wr.heap.size wr u:=hD5.trans (hu.mono hD5.size)
     exact⟨hbx.kept q1,HZ.out.kept q1,HOWN.out.kept q1,gG.out.trans (q1.mono gG.out.size)⟩
    clear hbx hb7 hD5
  rotate_left
  rotate_left
  iterate 2
   focus
    refine aH (R:=Later) 3 (by kernel_rfl) ?_
    refine kR (t:=3) (i:=1) rfl (by kernel_rfl) (by kernel_rfl) (by kernel_rfl) (by kernel_rfl) (fun _ _ _ h=>h) (by rfl) (fun w1 hl=>fM 69 _ rfl _ rfl ((HF.out w1 hl).1) Tryz.underlying69 rfl (cO V ta m tc en a)) ?_
    simp only[eA,eB,eC,Act.put,eD,eE,eF]
    refine pl [0,2] ?_
    repeat
     refine gU ?_ rfl (fun w1 hl=>?_) ?_
     rotate_left
     ·skip;go_simp;try with_reducible rfl
     simp only[eA,eB,eC,Act.put,eD,eE,eF]
    refine dI ?_
    refine aW (t:=3) (i:=3) (by kernel_rfl) rfl (fun w1 hl K hK=>?_)
    obtain⟨-,hz1,ho1,hB1⟩:=HF.out w1 hl
    refine dD (by rfl) ?_
    refine wp_store_row 69 _ _ rfl (w.heap.size+1) _ rfl rfl _ _ hz1 (cO V ta m tc en a) (by rw[dW,dW];rfl) (sF V _ rfl) ?_
    refine hK.out _ _ (fun h=>absurd rfl h) ?_
    have hfin:=hz1.setRow (sC V (dT ta m tc en a))
    have hown:Own (w1.setRow (w.heap.size+1) (sC V (dT ta m tc en a))) (w.heap.size+2) 61 3 gK (.slice sa acc.length c) acc:=ho1.bW fun g hg=>setRow_other w1 (w.heap.size+1) g _ (by have:=(ho1.bC g hg).1;omega)
    have zu:=below_setRow hB1 (Nat.le_succ w.heap.size) (sC V (dT ta m tc en a))
    clear hK K hz1 ho1 hB1 hl HF
    refine aQ (by kernel_rfl) (fun w1 hl=>?_) _
    have oO:=ah (hfin.kept hl);have HO:=ah (hown.kept hl);have Gm:=ah (zu.trans (hl.mono zu.size))
    clear hfin hown zu hl
    go_wp2
    obtain⟨h1,h2⟩:=H1.out
    refine bodyPost_ret (oZ rfl _ _ (w.heap.size+1) 69 (sC V (dT ta m tc en a)) (.slice sa acc.length c) rfl rfl oO.out Tryz.underlying69 rfl (cO V ta m tc en a)) rfl ?_
    refine⟨sa,acc.length,c,by rw[←h2],?_,Gm.out⟩
    rw[←h1];exact HO.out.mono (by omega)
  rename_i r
  obtain⟨k,e⟩:=r
  have hte:=yL htk
  rw[htk] at hnx h1 h2
  dsimp only at hnx h1 h2
  rw[show acc++(k,a,e)::(mG D W en f e).1=(acc++[(k,a,e)])++(mG D W en f e).1 by simp] at h1
  have H1:=ah (And.intro h1 h2)
  have Gh:=ah hnx
  obtain⟨ht1,ht2,_⟩:=hte
  rw[←HWM.out] at ht2
  clear h1 h2 hs hnx htk
  go_wp2_with (first | (refine aI (by rfl) 69 _ rfl w.heap.size rfl _ _ _ _ hbx Tryz.underlying69 rfl (cO V ta m tc en a) ?_) | (go_at_call 89;go_must (refine(o9.out a ha _ gG.out).mono ?_;rw[Xk.out];rintro e5 w5 ⟨rfl,hb5⟩;have kJ:=hbx.kept hb5;have y0:w5.cell? ⟨w.heap.size,260,none⟩=some (.slice ta m tc):=kJ.dH 0;have y2:w5.cell? ⟨w.heap.size,262,none⟩=some (.int .i64 a):=kJ.dH 2;have ly:=kJ.lt)) | (refine pO (by rfl) 27 _ rfl w.heap.size rfl kJ Tryz.underlying27 rfl (aZ V) ?_) | (go_at_call 88;go_must (refine(Gh.out _ (gG.out.trans (hb5.mono gG.out.size))).mono ?_;rintro e4 w4 ⟨rfl,hb4⟩;have Kw:=hb5.trans (hb4.mono hb5.size);have mM:=((HOWN.out.kept Kw).kept (aj w4 (.cells (wQ k a e) 61))).kept (aj _ (.cells (wQ k a e) 61));have ar7:=Kw.size;clear y0 y2 ly kJ)) | (at_builtin;go_must (refine fG rfl _ _ 55 rfl Un vN rfl mM ⟨w4.heap.size+1,0,none⟩ 1 (k,a,e) rfl (by rw[←World.size_alloc w4 (.cells (wQ k a e) 61)];exact cu _ (gK (k,a,e)) _) (by simp only[maxLen];omega) (by omega) (by simp only[World.size_alloc];omega) ?_;intro a7 c7 w7 fC bZ;have hbk:Box w7 w4.heap.size (wQ k a e) 61:=(bZ.block w4.heap.size (by simp only[World.size_alloc];omega) (fun e'=>by { have:=((HOWN.out.kept Kw).blk e'.symm).2;omega })).trans ((Box.new w4 _ _).kept (aj _ _));have p2:w7.cell? ⟨w4.heap.size,2,none⟩=some (.int .i64 e):=hbk.cell 2;have pl:=hbk.lt;have EL:∀ b,b<w.heap.size+2→w7.heap[b]?=wr.heap[b]?:=fun b hb=>by { refine(bZ.block b (by simp only[World.size_alloc];omega) (fun e'=>by { have:=(HOWN.out.kept Kw).bC b e'.symm;omega })).trans ?_;exact((Below.heap_alloc _ _ b (by simp only[World.size_alloc];omega)).trans (Below.heap_alloc _ _ b (by omega))).trans (Kw.block b (by omega)) };have hx7:Box w7 w.heap.size (sC V (dT ta m tc en a)) 69:=(EL _ (by omega)).trans hbx;have Bv:Box w7 (w.heap.size+1) (sC nH z34) 69:=(EL _ (by omega)).trans HZ.out;have r2:w7.cell? ⟨w.heap.size,262,none⟩=some (.int .i64 a):=hx7.dH 2;have rl:=hx7.lt;have rf:=hx7.free 262;have EM:Box (w7.setCell ⟨w.heap.size,262,none⟩ (.int .i64 e)) w.heap.size (sC V (dT ta m tc en e)) 69:=hx7.mV 2 (.int .i64 e);have HX8:=ah EM;have HZ7:=ah Bv;clear EM Bv hx7 hbk)))
  have kM:=below_grown ((gG.out.trans (Kw.mono gG.out.size)).alloc (gG.out.trans (Kw.mono gG.out.size)).size (.cells (wQ k a e) 61) |>.alloc (by simp only[World.size_alloc];omega) (.cells (wQ k a e) 61)) mM bZ (by omega) (by simp only[World.size_alloc];omega)
  obtain⟨h1,h2⟩:=H1.out
  refine⟨⟨f,e,acc++[(k,a,e)],a7,c7,by simp,ht2,by simpa using fC.other ⟨w.heap.size,262,none⟩ (.int .i64 e) (by show w.heap.size<_;omega),HX8.out,HZ7.out.other _ _ (by show w.heap.size+1≠w.heap.size;omega),kM.setCell (Nat.le_refl _) _,h1,h2,by omega⟩,?_⟩
  have hme:atN w.heap.size (w7.setCell ⟨w.heap.size,262,none⟩ (.int .i64 e))=e:=by
   unfold atN
   rw[show(w7.setCell ⟨w.heap.size,262,none⟩ (.int .i64 e)).cell? ⟨w.heap.size,262,none⟩=some (.int .i64 (e:Nat)) from HX8.out.dH 2]
   exact Int.toNat_natCast e
  rw[hme];omega
end
section
open Go.RowKit
theorem Ky:eu Tryz.prog 35 5 (.int .u8 0) 1 1:=⟨Tryz.underlying35,info_parts (by kernel_rfl),rfl,by decide⟩
theorem jU:fD bf 1:=⟨fun _=>rfl,fun x u hu=>by simp at hu;subst hu;rfl⟩
theorem Qd(l:List UInt8):(l.flatMap bf).length=l.length:=by
 induction l with
 | nil=>rfl
 | cons x l ih=>rw[List.flatMap_cons,List.length_append,ih];exact Nat.add_comm 1 _
theorem Zg(w:World)(row:Option Nat):w.grownBy w row:=⟨rfl,rfl,rfl,Nat.le_refl _,fun _ _ _=>rfl⟩
theorem VH(ty:TypeId)(w:World)(top:Nat)(ha:Option Addr)(m hc:Nat)(h:List UInt8)(hH:iK w top ha m hc h)(htw:top≤w.heap.size)(ba:Option Addr)(bn bc:Nat)(bs:List UInt8)(hS:ak w (.slice ba bn bc) 1 bf bs)(hlen:m+bn≤1099511627776) :
  ∃ a' c' w',(Builtin.append_ #[35,35] ty #[.slice ha m hc,.slice ba bn bc]).run Tryz.prog w=.ok (.slice a' (m+bn) c') w'∧iK w' top a' (m+bn) c' (h++bs)∧w.grownBy w' (ha.map (·.block)) ∧
   (∀ ad,a'=some ad→some ad.block=ha.map (·.block)∨w.heap.size≤ad.block):=by
 obtain⟨i,hi,hz,hsz,hby⟩:=Ky.info
 obtain⟨hm,hmc,hc63⟩:=hH.len
 obtain⟨bb,bo,hbn,hbc,ara,hba,hbx⟩:=hS.bY (f:=fun x:UInt8=>Value.int .u8 (x.toNat:Nat))
 by_cases hb0:bn=0
 ·subst hb0
  obtain rfl:bs=[]:=List.eq_nil_of_length_eq_zero (by omega)
  have hsrc:Src Tryz.prog i.size 35 (.slice ba 0 bc) 0 [] w:=by
   cases ba with
   | none=>exact Src.ofNil w Tryz.underlying35 bc
   | some ad=>exact Src.ofSlice w Tryz.underlying35 ad 0 bc [] (by simp) (fun j u hu=>by simp at hu) (fun u hu=>by cases hu)
  refine⟨ha,hc,w,run_append_nothing w _ _ _ 5 i Tryz.underlying35 hi ha m hc hmc _ hsrc,by rw[List.append_nil];exact hH,Zg w _,fun ad e=>.inl (by rw[e];rfl)⟩
 ·obtain rfl:=hba 0 (by omega)
  have hl:(bs.flatMap bf).length=bn*1:=by rw[Qd];omega
  have hnews:∀ j u,(bs.flatMap bf)[j]?=some u→w.cell? ((⟨bb,bo,none⟩:Addr).add j)=some u:=ak.afe (f:=fun x:UInt8=>Value.int .u8 (x.toNat:Nat)) hS
  have h1:∀ u∈bs.flatMap bf,u.oneCell'=true:=fun u hu=>by
   obtain⟨x,_,hx⟩:=List.mem_flatMap.1 hu
   simp at hx;subst hx;rfl
  have own:Own w top 5 1 bf (.slice ha m hc) h→∃ a' c' w',(Builtin.append_ #[35,35] ty #[.slice ha m hc,.slice (some ⟨bb,bo,none⟩) bn bc]).run Tryz.prog w=.ok (.slice a' (m+bn) c') w'∧iK w' top a' (m+bn) c' (h++bs)∧w.grownBy w' (ha.map (·.block)) ∧
    (∀ ad,a'=some ad→some ad.block=ha.map (·.block)∨w.heap.size≤ad.block):=fun ho=>by
   have hob:(Value.slice ha m hc).ownBlock=ha.map (·.block):=by cases ha <;> rfl
   obtain⟨v',w',hr,h2,h3,_⟩:=run_append_own (P:=Tryz.prog) w top 35 ty 5 i (.int .u8 0) 1 1 Tryz.underlying35 hi hz hsz hby rfl (by decide) _ h.length (h.flatMap bf) (ho.pz jU) ⟨bb,bo,none⟩ bn bc (bs.flatMap bf) hl hnews h1 (by simp[maxLen];omega) (by omega) htw
   have hb:=ru (c:=bc) Tryz.underlying35 hi hz hsz hby (ho.pz jU) hl hnews h1 (by omega) (by simp[maxLen];omega) (by omega) hr
   have ho':Own w' top 5 1 bf v' (h++bs):=by
    refine Own.ofRow ?_ jU
    rw[List.length_append,List.flatMap_append,←hbn]
    exact h2
   obtain⟨a',c',rfl⟩:=ho'.form
   have e:(h++bs).length=m+bn:=by rw[List.length_append];omega
   rw[e] at ho' hr hb
   rw[hob] at hb h3
   refine⟨a',c',w',hr,⟨ho'.slice jU,fun ad ha'=>?_,.inl ho'⟩,h3,fun ad ha'=>?_⟩
   ·subst ha';exact ho'.bC ad.block rfl
   ·subst ha'
    rcases hb with hb | hb
    ·exact .inl hb
    ·exact .inr (Nat.le_of_eq (Option.some.inj hb).symm)
  rcases hH.how with ho | rfl
  ·exact own ho
  ·cases ha with
   | none =>
    obtain⟨a',b',o',cap',hv,hl2,hc',ha2,_⟩:=hH.sl
    obtain⟨rfl,_,rfl⟩:=Value.slice.inj hv
    rcases ha2 with ha2 | ⟨rfl,hcz⟩
    ·cases ha2
    ·have:=hcz rfl
     subst this
     exact own (Own.nil _ _ _ _ _)
   | some ad =>
    have hol:(h.flatMap bf).length=m*i.size:=by rw[hsz,Qd];omega
    have hfl:=ak.afe (f:=fun x:UInt8=>Value.int .u8 (x.toNat:Nat)) hH.sl
    have hr:=run_append_grow (P:=Tryz.prog) w 35 ty 5 i (.int .u8 0) Tryz.underlying35 hi hz ad m m (h.flatMap bf) hol hfl ⟨bb,bo,none⟩ bn bc (bs.flatMap bf) (by rw[hsz];exact hl) hnews (by omega) (by omega) (growslice_fits (by omega) (by rw[hby];omega))
    refine⟨_,_,_,hr,?_,⟨rfl,rfl,rfl,by simp,fun k hk _=>Below.heap_alloc w.drew _ k hk⟩,fun ad' e=>.inr (by cases e;exact Nat.le_refl _)⟩
    have hge:=grownCap_ge w (m+bn) m 5
    have hcm:=grownCap_le_maxLen w (m+bn) m 5 (by simp[maxLen];omega)
    generalize grownCap w (m+bn) m 5=C at *
    have e:(h++bs).length=m+bn:=by rw[List.length_append];omega
    have ho':Own (w.drew.alloc (.cells ((h.flatMap bf).toArray++(bs.flatMap bf).toArray++Builtin.zeroCells (Value.int .u8 0).cells (C - (m+bn))) 5)) top 5 1 bf (.slice (some ⟨w.heap.size,0,none⟩) (m+bn) C) (h++bs):=by
     refine Own.ofRow ?_ jU
     rw[e]
     refine⟨by rw[List.flatMap_append,List.length_append,hl,hol,hsz];omega,.inr ⟨w.heap.size,C,_,rfl,htw,heap_alloc_new w.drew _,hge,hcm,?_,?_⟩⟩
     ·simp only[Array.size_append,List.size_toArray,size_zeroCells,hol,hl,hsz]
      show m*1+bn*1+(C - (m+bn))*1=C*1
      omega
     ·simp only[Array.toList_append,List.append_assoc,List.flatMap_append]
      rw[←List.append_assoc]
      have:(m+bn)*1=(h.flatMap bf++bs.flatMap bf).length:=by rw[List.length_append,hol,hl,hsz];omega
      rw[this];exact List.take_left
    exact⟨ho'.slice jU,fun ad' e'=>by cases e';exact⟨htw,by simp⟩,.inl ho'⟩
theorem VI{ops:Array Oper}{rest:List Oper}{o:Oper}{a:Act}{Q:Exit→Act→World→Prop}{w:World}(hgd:o.guard=none)(s x:Operand)
  (ho:o.op=.call { callee:=.builtin .append,args:=#[s,x],argTypes:=#[35,35] }) (top:Nat) (ha:Option Addr) (m hc:Nat) (h:List UInt8) (hH:iK w top ha m hc h) (htw:top≤w.heap.size) (ba:Option Addr) (bn bc:Nat) (bs:List UInt8) (hS:ak w (.slice ba bn bc) 1 bf bs) (hlen:m+bn≤1099511627776)
  (hs:a.eval s=.slice ha m hc) (hx:a.eval x=.slice ba bn bc)
  (K:∀ a' c' w',iK w' top a' (m+bn) c' (h++bs)→w.grownBy w' (ha.map (·.block))→(∀ ad,a'=some ad→some ad.block=ha.map (·.block)∨w.heap.size≤ad.block)→wpList Tryz.prog ops Q rest (a.put o.dst (.slice a' (m+bn) c')) w'):wpList Tryz.prog ops Q (o::rest) a w:=by
 obtain⟨a',c',w',hr,h1,h2,h3⟩:=VH o.type w top ha m hc h hH htw ba bn bc bs hS hlen
 refine wpList_plain hgd fun _ hK=>?_
 unfold Oper.wp execOp
 simp only[ho,resolve,invoke,builtin,Sem.run_bind,Sem.run_pure,Result.andThen_ok,List.map_toArray,List.map_cons,List.map_nil,hs,hx,hr]
 exact hK _ _ (K a' c' w' h1 h2 h3)
structure mJ(sb:Nat)(g:Option Nat)(w w':World):Prop where
 os:w'.os=w.os
 tape:w'.tape=w.tape
 output:w'.output=w.output
 size:w.heap.size≤w'.heap.size
 block:∀ b,b<w.heap.size→b≠sb→g≠some b→w'.heap[b]?=w.heap[b]?
theorem mJ.below{sb:Nat}{g:Option Nat}{w w':World}(h:Below w.heap.size w w'):mJ sb g w w':=⟨h.os,h.tape,h.output,h.size,fun b hb _ _=>h.block b hb⟩
theorem mJ.ab5{sb:Nat}{g:Option Nat}{w w':World}(h:aU sb w w'):mJ sb g w w':=⟨h.os,h.tape,h.output,h.size,fun b hb hn _=>h.block b hb hn⟩
theorem mJ.trans{sb:Nat}{g g2:Option Nat}{a b c:World}(h:mJ sb g a b)(hg:∀ k,g2=some k→g=some k∨a.heap.size≤k)(k:mJ sb g2 b c):mJ sb g a c :=
 ⟨k.os.trans h.os,k.tape.trans h.tape,k.output.trans h.output,Nat.le_trans h.size k.size,fun x hx h1 h2=>(k.block x (Nat.lt_of_lt_of_le hx h.size) h1 (fun e=>by rcases hg x e with h3 | h3 <;> first | exact h2 h3 | omega)).trans (h.block x hx h1 h2)⟩
theorem mJ.toBelow{sb:Nat}{g:Option Nat}{w0 w w':World}(h:mJ sb g w w')(hb:Below w0.heap.size w0 w)(hs:w0.heap.size≤sb)(hg:∀ k,g=some k→w0.heap.size≤k):Below w0.heap.size w0 w' :=
 ⟨h.os.trans hb.os,h.tape.trans hb.tape,h.output.trans hb.output,Nat.le_trans hb.size h.size,fun b hb'=>(h.block b (Nat.lt_of_lt_of_le hb' hb.size) (by omega) (fun e=>by have:=hg b e;omega)).trans (hb.block b hb')⟩
def Ii(sb top vb n:Nat)(V:au)(D:ay)(w0:World)(g:Option Nat)(w:World)(q:List (Int×Nat×Nat)×eG)(e:Ending)(w':World):Prop :=
 ∃ a c g',e=.returned (.slice a q.1.length c)∧Own w' w.heap.size 61 3 gK (.slice a q.1.length c) q.1∧mJ sb g w w'∧jd sb top vb n V D w0 w' q.2 g'∧(∀ k,g'=some k→(g=some k∨w.heap.size≤k)∧k<w'.heap.size)
end
section
open Go.RowKit
def alh(V:au)(L:List (Int×Nat×Nat))(W:List UInt8)(en:Bool)(at_:Nat)(w:World)(e:Ending)(w':World):Prop :=
 ∃ a n c ta m tc,e=.returned (.tuple #[.slice a n c,.agg (sC V (dT ta m tc en at_))])∧Own w' w.heap.size 61 3 gK (.slice a n c) L∧Own w' w.heap.size 5 1 bf (.slice ta m tc) W∧Below w.heap.size w w'
def Zh(V:au)(L:List (Int×Nat×Nat))(ta:Option Addr)(m tc:Nat)(en:Bool)(at_:Nat)(w:World)(e:Ending)(w':World):Prop :=
 ∃ a n c,e=.returned (.tuple #[.slice a n c,.agg (sC V (dT ta m tc en at_))])∧Own w' w.heap.size 61 3 gK (.slice a n c) L∧Below w.heap.size w w'
abbrev nR(w:World)(c:Array Value):World:=(w.alloc (.cells c 69)).alloc (.cells (sC nH z34) 69)
theorem G9(w:World)(c:Array Value):Box (nR w c) w.heap.size c 69∧Box (nR w c) (w.heap.size+1) (sC nH z34) 69∧Below w.heap.size w (nR w c)∧(nR w c).heap.size=w.heap.size+1+1 :=
 ⟨(Box.new w c _).kept (aj _ _),Box.new' (World.size_alloc _ _).symm _ _,(aj w _).alloc (aj w _).size _,by simp[nR]⟩
theorem Qq(V:au)(ta:Option Addr)(m tc:Nat)(at_:Nat)(bv:Value)(w:World) :
  Calls Tryz.prog 47 #[.agg (sC V (dT ta m tc true at_)),bv] w (Zh V [] ta m tc true at_ w):=by
 obtain⟨hx,hz,hB,hs⟩:=G9 w (sC V (dT ta m tc true at_))
 have hz0:=vO
 have e0:(nR w (sC V (dT ta m tc true at_))).cell? ⟨w.heap.size,261,none⟩=some (.bool true):=hx.dH 1
 have el:=hx.lt
 have hD:Below (nR w (sC V (dT ta m tc true at_))).heap.size (nR w (sC V (dT ta m tc true at_))) (nR w (sC V (dT ta m tc true at_))).drew:=(Below.refl _ _).drew
 have HF:Hid (∀ u,Later (nR w (sC V (dT ta m tc true at_))).drew u→Box u w.heap.size (sC V (dT ta m tc true at_)) 69∧Box u (w.heap.size+1) (sC nH z34) 69∧Below w.heap.size w u):=ah fun u hu=>by
  have q1:Below (nR w (sC V (dT ta m tc true at_))).heap.size (nR w (sC V (dT ta m tc true at_))) u:=hD.trans (hu.mono hD.size)
  have q2:=hB.trans (q1.mono hB.size)
  exact⟨hx.kept q1,hz.kept q1,q2⟩
 clear hx hz hB hs hD
 go_enter Tryz.func47,Tryz.ntmps47
 go_wp2_with fail
 refine aH (R:=Later) 2 (by kernel_rfl) ?_
 refine kR (t:=2) (i:=0) rfl (by kernel_rfl) (by kernel_rfl) (by kernel_rfl) (by kernel_rfl) (fun _ _ _ h=>h) (by rfl) (fun w1 hl=>fM 69 _ rfl _ rfl ((HF.out w1 hl).1) Tryz.underlying69 rfl (cO V ta m tc true at_)) ?_
 simp only[eA,eB,Act.put,eD,eE,eF]
 refine iZ 1 ?_ rfl (fun w1 hl=>?_) ?_
 rotate_left
 ·skip;go_simp;try with_reducible rfl
 simp only[eA,eB,eC,Act.put,eD,eE,eF]
 refine aW (t:=2) (i:=2) (by kernel_rfl) rfl (fun w1 hl K hK=>?_)
 obtain⟨-,hz1,hB1⟩:=HF.out w1 hl
 refine dD (by rfl) ?_
 refine wp_store_row 69 _ _ rfl (w.heap.size+1) _ rfl rfl _ _ hz1 (cO V ta m tc true at_) (by rw[dW,dW];rfl) (sF V _ rfl) ?_
 refine hK.out _ _ (fun h=>absurd rfl h) ?_
 have hfin:=hz1.setRow (sC V (dT ta m tc true at_))
 have zu:=below_setRow hB1 (Nat.le_succ w.heap.size) (sC V (dT ta m tc true at_))
 clear hK K hz1 hB1 hl e0 el
 refine aQ (by kernel_rfl) (fun w1 hl=>?_) _
 have oO:=ah (hfin.kept hl);have Gm:=ah (zu.trans (hl.mono zu.size))
 clear hfin zu hl
 go_wp2
 refine bodyPost_ret (oZ rfl _ _ (w.heap.size+1) 69 (sC V (dT ta m tc true at_)) (.slice none 0 0) rfl rfl oO.out Tryz.underlying69 rfl (cO V ta m tc true at_)) rfl ?_
 exact⟨none,0,0,rfl,Own.nil _ _ _ _ _,Gm.out⟩
theorem UA(V:au)(ta:Option Addr)(m tc:Nat)(at_:Nat)(w:World) :
  Calls Tryz.prog 44 #[.agg (sC V (dT ta m tc true at_))] w (Zh V [] ta m tc true at_ w):=by
 obtain⟨hx,hz,hB,hs⟩:=G9 w (sC V (dT ta m tc true at_))
 have hz0:=vO
 have e0:(nR w (sC V (dT ta m tc true at_))).cell? ⟨w.heap.size,261,none⟩=some (.bool true):=hx.dH 1
 have el:=hx.lt
 have hD:Below (nR w (sC V (dT ta m tc true at_))).heap.size (nR w (sC V (dT ta m tc true at_))) (nR w (sC V (dT ta m tc true at_))).drew:=(Below.refl _ _).drew
 have HF:Hid (∀ u,Later (nR w (sC V (dT ta m tc true at_))).drew u→Box u w.heap.size (sC V (dT ta m tc true at_)) 69∧Box u (w.heap.size+1) (sC nH z34) 69∧Below w.heap.size w u):=ah fun u hu=>by
  have q1:Below (nR w (sC V (dT ta m tc true at_))).heap.size (nR w (sC V (dT ta m tc true at_))) u:=hD.trans (hu.mono hD.size)
  have q2:=hB.trans (q1.mono hB.size)
  exact⟨hx.kept q1,hz.kept q1,q2⟩
 clear hx hz hB hs hD
 go_enter Tryz.func44,Tryz.ntmps44
 go_wp2_with fail
 refine aH (R:=Later) 2 (by kernel_rfl) ?_
 refine kR (t:=2) (i:=0) rfl (by kernel_rfl) (by kernel_rfl) (by kernel_rfl) (by kernel_rfl) (fun _ _ _ h=>h) (by rfl) (fun w1 hl=>fM 69 _ rfl _ rfl ((HF.out w1 hl).1) Tryz.underlying69 rfl (cO V ta m tc true at_)) ?_
 simp only[eA,eB,Act.put,eD,eE,eF]
 refine iZ 1 ?_ rfl (fun w1 hl=>?_) ?_
 rotate_left
 ·skip;go_simp;try with_reducible rfl
 simp only[eA,eB,eC,Act.put,eD,eE,eF]
 refine aW (t:=2) (i:=2) (by kernel_rfl) rfl (fun w1 hl K hK=>?_)
 obtain⟨-,hz1,hB1⟩:=HF.out w1 hl
 refine dD (by rfl) ?_
 refine wp_store_row 69 _ _ rfl (w.heap.size+1) _ rfl rfl _ _ hz1 (cO V ta m tc true at_) (by rw[dW,dW];rfl) (sF V _ rfl) ?_
 refine hK.out _ _ (fun h=>absurd rfl h) ?_
 have hfin:=hz1.setRow (sC V (dT ta m tc true at_))
 have zu:=below_setRow hB1 (Nat.le_succ w.heap.size) (sC V (dT ta m tc true at_))
 clear hK K hz1 hB1 hl e0 el
 refine aQ (by kernel_rfl) (fun w1 hl=>?_) _
 have oO:=ah (hfin.kept hl);have Gm:=ah (zu.trans (hl.mono zu.size))
 clear hfin zu hl
 go_wp2
 refine bodyPost_ret (oZ rfl _ _ (w.heap.size+1) 69 (sC V (dT ta m tc true at_)) (.slice none 0 0) rfl rfl oO.out Tryz.underlying69 rfl (cO V ta m tc true at_)) rfl ?_
 exact⟨none,0,0,rfl,Own.nil _ _ _ _ _,Gm.out⟩
theorem Zi(V:au)(D:ay)(W b:List UInt8)(ta ba:Option Addr)(m tc bn bc:Nat)(at_:Nat)(w:World)(h:dN w V D)(hof:∀ b,V.of b<256)(hl:∀ x∈D.names,x.length≤9223372036854775807)(hr:dS D=true)(hT:ak w (.slice ta m tc) 1 bf W)(hb:ak w (.slice ba bn bc) 1 bf b)(hat:at_≤m)(hmb:m+bn≤1099511627776) :
  Calls Tryz.prog 47 #[.agg (sC V (dT ta m tc false at_)),.slice ba bn bc] w (alh V (kC D (W++b) false at_).1 (W++b) false (kC D (W++b) false at_).2 w):=by
 have hm:=tX hT
 have hbn:=tX hb
 obtain⟨hx1,hz1,hB1,hs1⟩:=G9 w (sC V (dT ta m tc false at_))
 have hz0:=vO
 have e0:(nR w (sC V (dT ta m tc false at_))).cell? ⟨w.heap.size,261,none⟩=some (.bool false):=hx1.dH 1
 have el:=hx1.lt
 have hal:=aj (nR w (sC V (dT ta m tc false at_))) (.cells #[] 5)
 have hx2:=hx1.kept hal
 have hz2:=hz1.kept hal
 have hB2:=hB1.trans (hal.mono hB1.size)
 have ho2:Own ((nR w (sC V (dT ta m tc false at_))).alloc (.cells #[] 5)) (w.heap.size+2) 5 1 bf (.slice (some ⟨w.heap.size+1+1,0,none⟩) 0 0) []:=Own.empty' hs1.symm _ _ 1 bf (by rw[hs1];exact Nat.le_refl _)
 have hT2:=hT.kept hB2
 have y0:((nR w (sC V (dT ta m tc false at_))).alloc (.cells #[] 5)).cell? ⟨w.heap.size,260,none⟩=some (.slice ta m tc):=hx2.dH 0
 have yl:=hx2.lt
 have hs2:((nR w (sC V (dT ta m tc false at_))).alloc (.cells #[] 5)).heap.size=w.heap.size+1+1+1:=by rw[World.size_alloc,hs1]
 have Dq:=ah hx2;have HZ2:=ah hz2;have HB2:=ah hB2;have Ae:=ah hb
 have HTL:=ah (fun(a:Option Addr) (c:Nat) u (hu:Below w.heap.size w u) (hs:ak u (.slice a (W.length+bn) c) 1 bf (W++b))=>NC V D (W++b) a (W.length+bn) c false at_ u (h.kept hu) hof hl hr hs (by omega) (by omega))
 have HM:=ah hm
 have ar8:W.length+bn≤1099511627776:=by omega
 have ar9:m≤1099511627776:=by omega
 clear h hof hl hr hT hb hm hbn hx1 hz1 hB1 hs1 hx2 hz2 hB2 hal
 go_enter Tryz.func47,Tryz.ntmps47
 go_wp2_with (first | (at_builtin;refine oC rfl _ _ 35 rfl Ky jU rfl ho2 ta m tc rfl hT2 (by simp[maxLen];omega) (by simp;omega) (by rw[hs2];omega) ?_;go_must (intro a5 c5 w5 iQ hg5 hf5;rw[show([]:List UInt8).length+m=m by simp,List.nil_append] at iQ;have hs5:=hg5.size;rw[hs2] at hs5;have dG:=below_grown HB2.out ho2 hg5 (by omega) (by rw[hs2];omega);have hb5:=Ae.out.kept dG;have HG5:=ah hg5;clear y0 yl e0 el hg5 hf5 hT2)) | (at_builtin;go_must (refine oC rfl _ _ 35 rfl Ky jU rfl iQ ba bn bc rfl hb5 (by simp[maxLen];omega) (by omega) (by omega) ?_;intro a6 c6 w6 wo Ws hf6;have hs6:=Ws.size;have hk6:∀ b,b<w.heap.size+2→w6.heap[b]?=((nR w (sC V (dT ta m tc false at_))).alloc (.cells #[] 5)).heap[b]?:=fun b hb=>(Ws.block b (by omega) (fun e'=>by have:=iQ.bC b e'.symm;omega)).trans (HG5.out.block b (by rw[hs2];omega) (fun e'=>by have:=ho2.bC b e'.symm;omega));have hx6:Box w6 w.heap.size (sC V (dT ta m tc false at_)) 69:=(hk6 _ (by omega)).trans Dq.out;have WL:Box w6 (w.heap.size+1) (sC nH z34) 69:=(hk6 _ (by omega)).trans HZ2.out;have ni:=below_grown dG iQ Ws (by omega) (by omega);have r0:w6.cell? ⟨w.heap.size,260,none⟩=some (.slice ta m tc):=hx6.dH 0;have rl:=hx6.lt;have rf:=hx6.free 260;have hx7:Box (w6.setCell ⟨w.heap.size,260,none⟩ (.slice a6 (W.length+bn) c6)) w.heap.size (sC V (dT a6 (W.length+bn) c6 false at_)) 69:=hx6.mV 0 _;have Bv:=WL.other ⟨w.heap.size,260,none⟩ (.slice a6 (W.length+bn) c6) (by show w.heap.size+1≠w.heap.size;omega);have kM:Below w.heap.size w (w6.setCell ⟨w.heap.size,260,none⟩ (.slice a6 (W.length+bn) c6)):=ni.setCell (Nat.le_refl _) _;have fC:=wo.other ⟨w.heap.size,260,none⟩ (.slice a6 (W.length+bn) c6) (by show w.heap.size<_;omega);have hs7:=fC.slice jU;have HZ7:=ah Bv;have Nl:=ah kM;have HS7:=ah hs7;have P5:=ah fC;clear hx6 WL ni Ws hf6 wo fC hk6 Bv kM hs7 iQ hb5 dG)) | (refine aI (by rfl) 69 _ rfl w.heap.size rfl _ _ _ _ hx7 Tryz.underlying69 rfl (cO V a6 (W.length+bn) c6 false at_) ?_) | (go_at_call 87;go_must (refine(HTL.out a6 c6 _ Nl.out HS7.out).mono ?_;rintro e w8 ⟨a8,n8,c8,rfl,hs8,hb8⟩;have IQ:=HZ7.out.kept hb8;have uX:=Nl.out.trans (hb8.mono Nl.out.size);have hw8:=P5.out.kept hb8;clear r0 rl rf hx7 hb8)) | (refine wpList_store_row rfl 69 _ _ rfl (w.heap.size+1) _ rfl rfl _ _ IQ (cO V a6 (W.length+bn) c6 false _) (by rw[dW,dW];rfl) (sF V _ rfl) ?_))
 generalize hN:(kC D (W++b) false at_).2=at2 at *
 have hfin:=IQ.setRow (sC V (dT a6 (W.length+bn) c6 false at2))
 refine bodyPost_ret (oZ rfl _ _ (w.heap.size+1) 69 (sC V (dT a6 (W.length+bn) c6 false at2)) (.slice a8 n8 c8) rfl rfl hfin Tryz.underlying69 rfl (cO V a6 (W.length+bn) c6 false at2)) rfl ?_
 have hsz:w.heap.size+2≤(w6.setCell ⟨w.heap.size,260,none⟩ (.slice a6 (W.length+bn) c6)).heap.size:=by rw[World.size_setCell];omega
 have ht8:=hs8.bW (w':=w8.setRow (w.heap.size+1) (sC V (dT a6 (W.length+bn) c6 false at2))) fun g hg=>setRow_other w8 (w.heap.size+1) g _ (by have:=(hs8.bC g hg).1;omega)
 have hv8:=hw8.bW (w':=w8.setRow (w.heap.size+1) (sC V (dT a6 (W.length+bn) c6 false at2))) fun g hg=>setRow_other w8 (w.heap.size+1) g _ (by have:=(hw8.bC g hg).1;omega)
 exact⟨a8,n8,c8,a6,W.length+bn,c6,rfl,ht8.mono (by omega),hv8.mono (by omega),below_setRow uX (Nat.le_succ _) _⟩
end
section
open Go.RowKit
theorem ab6(V:au)(D:ay)(W:List UInt8)(ta:Option Addr)(m tc:Nat)(at_:Nat)(w:World)(h:dN w V D)(hof:∀ b,V.of b<256)(hl:∀ x∈D.names,x.length≤9223372036854775807)(hr:dS D=true)(hT:ak w (.slice ta m tc) 1 bf W)(hat:at_≤m)(hmb:m≤1099511627776) :
  Calls Tryz.prog 44 #[.agg (sC V (dT ta m tc false at_))] w (Zh V (kC D W true at_).1 ta m tc true (kC D W true at_).2 w):=by
 obtain⟨hx1,hz1,hB1,hs1⟩:=G9 w (sC V (dT ta m tc false at_))
 have hz0:=vO
 have e0:(nR w (sC V (dT ta m tc false at_))).cell? ⟨w.heap.size,261,none⟩=some (.bool false):=hx1.dH 1
 have el:=hx1.lt
 have ef:=hx1.free 261
 obtain⟨hx3,hz2,hB2,hs2⟩:=G9 w ((sC V (dT ta m tc false at_)).setIfInBounds 261 (.bool true))
 have hset:(sC V (dT ta m tc false at_)).setIfInBounds 261 (.bool true)=sC V (dT ta m tc true at_):=abS V _ 1 _
 have hx2:Box (nR w ((sC V (dT ta m tc false at_)).setIfInBounds 261 (.bool true))) w.heap.size (sC V (dT ta m tc true at_)) 69:=(congrArg (fun c=>Box (nR w ((sC V (dT ta m tc false at_)).setIfInBounds 261 (.bool true))) w.heap.size c 69) hset).mp hx3
 have HTL:=ah (fun u (hu:Below w.heap.size w u)=>NC V D W ta m tc true at_ u (h.kept hu) hof hl hr (hT.kept hu) hat hmb)
 have HZ2:=ah hz2;have HB2:=ah hB2;have HS2:=ah hs2
 clear h hof hl hr hT hx1 hz1 hB1 hs1 hz2 hB2 hs2 hx3 hset
 go_enter Tryz.func44,Tryz.ntmps44
 go_wp2_with (first | (refine aI (by rfl) 69 _ rfl w.heap.size rfl _ _ _ _ hx2 Tryz.underlying69 rfl (cO V ta m tc true at_) ?_) | (go_at_call 87;go_must (refine(HTL.out _ HB2.out).mono ?_;rintro e w8 ⟨a8,n8,c8,rfl,hs8,hb8⟩;have IQ:=HZ2.out.kept hb8;have uX:=HB2.out.trans (hb8.mono HB2.out.size);clear e0 el ef hx2 hb8)) | (refine wpList_store_row rfl 69 _ _ rfl (w.heap.size+1) _ rfl rfl _ _ IQ (cO V ta m tc true _) (by rw[dW,dW];rfl) (sF V _ rfl) ?_))
 generalize hN:(kC D W true at_).2=at2 at *
 have hfin:=IQ.setRow (sC V (dT ta m tc true at2))
 refine bodyPost_ret (oZ rfl _ _ (w.heap.size+1) 69 (sC V (dT ta m tc true at2)) (.slice a8 n8 c8) rfl rfl hfin Tryz.underlying69 rfl (cO V ta m tc true at2)) rfl ?_
 have hsz:=HS2.out
 have ht8:=hs8.bW (w':=w8.setRow (w.heap.size+1) (sC V (dT ta m tc true at2))) fun g hg=>setRow_other w8 (w.heap.size+1) g _ (by have:=(hs8.bC g hg).1;omega)
 have zu:=below_setRow uX (Nat.le_succ _) (sC V (dT ta m tc true at2))
 exact⟨a8,n8,c8,rfl,ht8.mono (by omega),zu⟩
def qc(D:ay)(W:List UInt8)(en:Bool)(at_:Nat):Bool:=decide (at_<W.length)&&(jm D W at_).isNone&&dZ D en (W.drop at_)
theorem Jr(V:au)(D:ay)(W:List UInt8)(ta:Option Addr)(m tc:Nat)(en:Bool)(at_:Nat)(w:World)(h:dN w V D)(hof:∀ b,V.of b<256)(hl:∀ x∈D.names,x.length≤9223372036854775807)(hr:dS D=true)(hT:ak w (.slice ta m tc) 1 bf W)(hat:at_≤m) :
  Calls Tryz.prog 50 #[.agg (sC V (dT ta m tc en at_))] w (bM w (.bool (qc D W en at_))):=by
 have hm:=tX hT
 have hbx:=Box.new w (sC V (dT ta m tc en at_)) 69
 have hB0:=aj w (.cells (sC V (dT ta m tc en at_)) 69)
 have y0:(w.alloc (.cells (sC V (dT ta m tc en at_)) 69)).cell? ⟨w.heap.size,260,none⟩=some (.slice ta m tc):=hbx.dH 0
 have y2:(w.alloc (.cells (sC V (dT ta m tc en at_)) 69)).cell? ⟨w.heap.size,262,none⟩=some (.int .i64 at_):=hbx.dH 2
 have yl:=hbx.lt
 have o9:=ah (fun u (hu:Below w.heap.size w u)=>Nz V D W ta m tc en at_ u (h.kept hu) hr (hT.kept hu) hat)
 have HN:=ah (fun u (hu:Below w.heap.size w u)=>by
  have h1:=Nq V D W ta m tc (at_:Nat) u (h.kept hu) hof hl (hT.kept hu)
  rw[show zL D W (at_:Nat)=AP D W at_ by unfold zL;rw[if_pos ⟨hr,by omega,by omega⟩,Int.toNat_natCast]] at h1
  exact h1)
 have hse:qc D W en at_=(decide (at_<m)&&(jm D W at_).isNone&&dZ D en (W.drop at_)):=by unfold qc;rw[hm]
 rw[hse]
 obtain⟨S,hS⟩:∃ S,dZ D en (W.drop at_)=S:=⟨_,rfl⟩
 rw[hS] at o9 ⊢
 clear h hof hl hr hT hm hse hS
 have hfm:∃ (x y z:Int) (b:Bool),AP D W at_=.tuple #[.agg #[.int .i64 x,.int .i64 y,.int .i64 z],.bool b]∧b=!(jm D W at_).isNone:=by
  unfold AP
  cases jm D W at_ with
  | none=>exact⟨0,0,0,false,rfl,rfl⟩
  | some r=>exact⟨r.1,at_,r.2,true,rfl,rfl⟩
 obtain⟨x,y,z,b,hn,hbn⟩:=hfm
 rw[hn] at HN
 have Jb:Hid ((decide (at_<m)&&(jm D W at_).isNone&&S)=(decide (at_<m)&&!b&&S)):=ah (by rw[hbn,Bool.not_not])
 rw[Jb.out]
 have HB0:=ah hB0
 clear hn hbn hB0 Jb
 by_cases hgt:at_<m
 focus
  have hgi:(at_:Int)<(m:Int):=by omega
  rw[decide_eq_true hgt]
 rotate_left
 focus
  have hgi:¬ (at_:Int)<(m:Int):=by omega
  rw[decide_eq_false hgt]
 all_goals
  cases b
  all_goals
   go_enter Tryz.func50,Tryz.ntmps50
   go_wp2_with (first | (refine pO (by rfl) 27 _ rfl w.heap.size rfl hbx Tryz.underlying27 rfl (aZ V) ?_) | (go_at_call 88;go_must (refine(HN.out _ HB0.out).mono ?_;rintro e6 w6 ⟨rfl,hb6⟩;have hc6:=hb6.alloc hb6.size (.cells #[.int .i64 x,.int .i64 y,.int .i64 z] 61);have hx6:=hbx.kept hc6;have p0:(w6.alloc (.cells #[.int .i64 x,.int .i64 y,.int .i64 z] 61)).cell? ⟨w.heap.size,260,none⟩=some (.slice ta m tc):=hx6.dH 0;have p2:(w6.alloc (.cells #[.int .i64 x,.int .i64 y,.int .i64 z] 61)).cell? ⟨w.heap.size,262,none⟩=some (.int .i64 at_):=hx6.dH 2;have pl:=hx6.lt;have HC7:=ah (HB0.out.trans (hc6.mono HB0.out.size));clear hb6 hc6)) | (refine aI (by rfl) 69 _ rfl w.heap.size rfl _ _ _ _ hx6 Tryz.underlying69 rfl (cO V ta m tc en at_) ?_) | (go_at_call 89;go_must (refine(o9.out _ HC7.out).mono ?_;rintro e7 w7 ⟨rfl,hb7⟩;have HC7:=ah (HC7.out.trans (hb7.mono HC7.out.size)))))
   go_ret
   exact⟨rfl,HC7.out⟩
theorem Zj(V:au)(D:ay)(W:List UInt8)(ta:Option Addr)(m tc:Nat)(en:Bool)(at_:Nat)(w:World)(h:dN w V D)(hof:∀ b,V.of b<256)(hl:∀ x∈D.names,x.length≤9223372036854775807)(hr:dS D=true)(hT:ak w (.slice ta m tc) 1 bf W)(hat:at_≤m)(hmb:m≤1099511627776) :
  Calls Tryz.prog 52 #[.agg (sC V (dT ta m tc en at_))] w (bM w (.int .i64 (if qc D W en at_=true then 0 else m - at_:Nat))):=by
 have hbx:=Box.new w (sC V (dT ta m tc en at_)) 69
 have hB0:=aj w (.cells (sC V (dT ta m tc en at_)) 69)
 have TF:=ah (Jr V D W ta m tc en at_ _ (h.kept hB0) hof hl hr (hT.kept hB0) hat)
 have HB0:=ah hB0
 clear h hof hl hr hT hB0
 cases hs:qc D W en at_ with
 | true =>
  rw[hs] at TF
  rw[if_pos rfl]
  clear hs
  go_enter Tryz.func52,Tryz.ntmps52
  go_wp2_with (first | (refine aI (by rfl) 69 _ rfl w.heap.size rfl _ _ _ _ hbx Tryz.underlying69 rfl (cO V ta m tc en at_) ?_) | (go_at_call 50;go_must (refine TF.out.mono ?_;rintro e w5 ⟨rfl,hb5⟩)))
  go_ret
  exact⟨rfl,HB0.out.trans (hb5.mono HB0.out.size)⟩
 | false =>
  rw[hs] at TF
  rw[if_neg (by decide)]
  have hw:IntKind.i64.wrap ((m:Int) - (at_:Int))=((m - at_:Nat):Int):=by rw[IntWalk.i64_in _ (by omega)];omega
  clear hs
  go_enter Tryz.func52,Tryz.ntmps52
  go_wp2_with (first | (refine aI (by rfl) 69 _ rfl w.heap.size rfl _ _ _ _ hbx Tryz.underlying69 rfl (cO V ta m tc en at_) ?_) | (go_at_call 50;go_must (refine TF.out.mono ?_;rintro e w5 ⟨rfl,hb5⟩;have hx5:=hbx.kept hb5;have y0:w5.cell? ⟨w.heap.size,260,none⟩=some (.slice ta m tc):=hx5.dH 0;have y2:w5.cell? ⟨w.heap.size,262,none⟩=some (.int .i64 at_):=hx5.dH 2;have ly:=hx5.lt)))
  go_ret
  exact⟨by rw[←hw];rfl,HB0.out.trans (hb5.mono HB0.out.size)⟩
end
end Go.Proofs.YtbemonecmmnlcaaGreatDoor
