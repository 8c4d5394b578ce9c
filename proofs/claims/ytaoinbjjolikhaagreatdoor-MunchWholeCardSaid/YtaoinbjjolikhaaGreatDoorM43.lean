/- The texts of B43, in few letters (mini.py). -/
import Derived.Test.YtaoinbjjolikhaaGreatDoorM41
set_option linter.unusedVariables false
set_option linter.unusedSimpArgs false
set_option maxRecDepth 20000
set_option maxHeartbeats 1600000
namespace Go.Proofs.YtaoinbjjolikhaaGreatDoor
section
open Go.RowKit
theorem agH(V:aG)(D:aT)(t:List UInt8)(ta:Option Addr)(tn tc:Nat)(w:World)(h:dS w V D)(hl:∀ x∈D.names,x.length≤9223372036854775807)(hr:fH D=true)(hT:ak w (.slice ta tn tc) 1 bQ t) :
  Calls Tryz.prog 44 #[.agg V.cells,.slice ta tn tc] w (aX w (.int .i64 (dH D 0 t:Nat))):=by
 have hw:=AX hr
 obtain⟨n,wd,lb,lo,nb,no,rb,ro,rc,hM⟩:=machC h hw
 have hbx:=Box.new w V.cells 27
 have hB0:=aj w (.cells V.cells 27)
 obtain⟨tb,zC,htn,htc,YW,hta,htx⟩:=ak.dG (f:=fun x:UInt8=>Value.int .u8 (x.toNat:Nat)) hT
 subst htn
 have hn1:=hM.PW
 have WZ:=ah (fun u hu=>hr▸rM V D u (h.kept hu) hl)
 have HM:=ah hM;have Js:=ah hta;have HTX:=ah htx;have HV:=ah h.1
 obtain⟨m,hm⟩:∃ m,t.length=m:=⟨_,rfl⟩
 have xq:=ah hm
 rw[hm] at htc ⊢
 obtain⟨R,hR⟩:∃ R,dH D 0 t=R:=⟨_,rfl⟩
 rw[hR]
 have HR:=ah hR
 clear h hl hr hM hta htx hT hm hR hw
 go_enter Tryz.func44,Tryz.ntmps44
 go_wp2_with (first | (refine aC (by rfl) 27 _ rfl w.heap.size rfl _ _ _ _ hbx Tryz.underlying27 rfl (aQ _) ?_) | (go_at_call 20;go_must (refine(WZ.out _ hB0).mono ?_;rintro e w2 ⟨rfl,hb2⟩)))
 have hB2:=hB0.trans (hb2.mono hB0.size)
 have hx2:=hbx.kept hb2
 have HB2:=ah hB2;have wK:=ah hx2
 clear hB2 hx2 hb2 hB0 hbx WZ
 go_loopw [5,13] (fun v5 v13 wr=>∃ i:Nat,i≤m∧v13=.int .i64 i∧v5=.int .i64 (dH D 0 (t.take i):Nat)∧Below w2.heap.size w2 wr) (fun _ v13 _=>m - (intOf v13).toNat)
 case atStart=>exact⟨0,Nat.zero_le _,rfl,rfl,Below.refl _ _⟩
 case round =>
  obtain⟨i,hi,rfl,rfl,hBr⟩:=hrel
  have hBw:Below w.heap.size w wr:=HB2.out.trans (hBr.mono HB2.out.size)
  have hx:=wK.out.kept hBr
  by_cases hlt:i<m
  ·have hlt2:i<t.length:=by rw[xq.out];exact hlt
   obtain rfl:=Js.out i hlt2
   have hs:=HM.out.run (t.take i) (s:=0) (by omega)
   have hsn:dH D 0 (t.take (i+1))=kM D (dH D 0 (t.take i)) t[i]:=by rw[List.take_succ_eq_append_getElem hlt2,PX]
   have c0:=HTX.out i hlt2 wr hBw
   generalize t[i]=b at *
   generalize dH D 0 (t.take i)=s at *
   have hbl:=World.block_lt_of_cell? wr _ c0
   have hDr:Below wr.heap.size wr wr.drew:=(Below.refl _ _).drew
   have hbt:=b.toNat_lt
   obtain⟨hc1,hc2⟩:=HM.out.cap s hs
   obtain⟨ajl,zf⟩:=HM.out.nc
   have hob:=HM.out.of b.toNat hbt
   have hto:=HM.out.lt s hs _ hob
   rw[J6] at hsn
   have HF:Hid (∀ u,Later wr.drew u→(u.cell? ⟨w.heap.size,257,none⟩=some (.slice (some ⟨nb,no,none⟩) n V.nc)∧u.cell? ⟨w.heap.size,b.toNat,none⟩=some (.int .u8 (D.of b.toNat:Nat))∧u.cell? ⟨nb,no+s,none⟩=some (.slice (some ⟨rb s,ro s,none⟩) wd (rc s))∧u.cell? ⟨rb s,ro s+D.of b.toNat,none⟩=some (.int .i64 (stepD D s (D.of b.toNat):Nat)))∧Below wr.heap.size wr u):=ah fun u hu=>by
    have h1:Below wr.heap.size wr u:=hDr.trans (hu.mono hDr.size)
    have h2:Below w.heap.size w u:=hBw.trans (h1.mono hBw.size)
    obtain⟨a1,a2,a3,a4,_⟩:=DT HM.out HV.out h2 (hx.kept h1) hs hbt
    exact⟨⟨a1,a2,a3,a4⟩,h1⟩
   have HSN:=ah hsn;have Fg:=ah hBr
   generalize b.toNat=bn at *
   generalize D.of bn=ob at *
   generalize stepD D s ob=s2 at *
   generalize rb s=rbs at *
   generalize ro s=ros at *
   generalize rc s=rcs at *
   have hii:(i:Int)<(m:Int):=by omega
   have hi0:(0:Int)≤(i:Int):=by omega
   have hsi:(s:Int)<(n:Int):=by omega
   have hs0:(0:Int)≤(s:Int):=by omega
   have hoi:(ob:Int)<(wd:Int):=by omega
   have ho0:(0:Int)≤(ob:Int):=by omega
   have hbi:(bn:Int)<256:=by omega
   have hb0:(0:Int)≤(bn:Int):=by omega
   clear hsn hBr hBw hx hDr
   go_wp2_with fail
   refine aA (R:=Later) 12 (by kernel_rfl) ?_
   refine pl [0,1,2,3,4,5,6,7,8,9,10,11] ?_
   repeat
    refine dB ?_ rfl (fun w1 hl=>?_) ?_
    rotate_left
    ·obtain⟨⟨q1,q2,q3,q4⟩,hq⟩:=HF.out w1 hl;have l1:=World.block_lt_of_cell? w1 _ q1;have l2:=World.block_lt_of_cell? w1 _ q3;have l3:=World.block_lt_of_cell? w1 _ q4;go_simp;try with_reducible rfl
    simp only[eA,eB,eC,Act.put,eD,eE,eF]
   refine bP ?_
   refine aI (by kernel_rfl) (fun w1 hl=>?_) _
   have hq:=(HF.out w1 hl).2
   clear HF hl
   go_wp2
   exact⟨⟨i+1,hlt,by push_cast;rfl,by rw[HSN.out],Fg.out.trans (hq.mono Fg.out.size)⟩,by simp[intOf];omega⟩
  ·obtain rfl:i=m:=by omega
   rw[←xq.out,List.take_length,HR.out]
   go_wp2
   go_ret
   exact⟨rfl,hBw⟩
theorem aeB(V:aG)(D:aT)(t:List UInt8)(ta:Option Addr)(tn tc:Nat)(w:World)(h:dS w V D)(hl:∀ x∈D.names,x.length≤9223372036854775807)(hr:fH D=true)(hT:ak w (.slice ta tn tc) 1 bQ t) :
  Calls Tryz.prog 21 #[.agg V.cells,.slice ta tn tc] w (aX w (.int .i64 (labS D (dH D 0 t)))):=by
 have hw:=AX hr
 obtain⟨n,wd,lb,lo,nb,no,rb,ro,rc,hM⟩:=machC h hw
 have hbx:=Box.new w V.cells 27
 have hB0:=aj w (.cells V.cells 27)
 have HRU:=ah (agH V D t ta tn tc _ (h.kept hB0) hl hr (hT.kept hB0))
 have hs:=hM.run t (s:=0) hM.PW.1
 obtain⟨ajI,OE⟩:=hM.lc
 have HM:=ah hM;have HV:=ah h.1
 clear h hl hr hM hT hw
 have hnn:decide (((dH D 0 t:Nat):Int)<0)=false:=decide_eq_false (by omega)
 have hsi:((dH D 0 t:Nat):Int)<(n:Int):=by omega
 have hs0:(0:Int)≤((dH D 0 t:Nat):Int):=by omega
 have HAT:=ah (fun u (h2:Below w.heap.size w u) (hx:Box u w.heap.size V.cells 27)=>(DT HM.out HV.out h2 hx hs (bn:=0) (by decide)).2.2.2.2)
 generalize labS D (dH D 0 t)=lab at *
 generalize dH D 0 t=s at *
 go_enter Tryz.func21,Tryz.ntmps21
 go_wp2_with (first | (refine aC (by rfl) 27 _ rfl w.heap.size rfl _ _ _ _ hbx Tryz.underlying27 rfl (aQ _) ?_) | (go_at_call 44;go_must (refine HRU.out.mono ?_;rintro e w2 ⟨rfl,hb2⟩;have hB2:=hB0.trans (hb2.mono hB0.size);obtain⟨x2,x3⟩:=HAT.out w2 hB2 (hbx.kept hb2);have l1:=World.block_lt_of_cell? w2 _ x2;have l2:=World.block_lt_of_cell? w2 _ x3)))
 go_ret
 exact⟨rfl,hB2⟩
end
section
open Go.RowKit
theorem ak.piece{α:Type}{f:α→Value}{w:World}{a:Option Addr}{n cap:Nat}{xs:List α}(h:ak w (.slice a n cap) 1 (fun x=>[f x]) xs)(p q:Nat)(hp:p≤q)(hq:q≤n) :
  ak w (.slice (if cap=p then a else a.map (fun x:Addr=>x.add p)) (q - p) (cap - p)) 1 (fun x=>[f x]) ((xs.drop p).take (q - p)):=by
 have h0:=h
 obtain⟨a',b,o,cap',hv,hl,hc,ha,hx⟩:=h
 obtain⟨rfl,rfl,rfl⟩:=Value.slice.inj hv
 rcases ha with rfl | ⟨rfl,hcn⟩
 ·have:=h0.sub (f:=f) p (q - p) (by omega)
  have e:Ah b o cap p=(if cap=p then some ⟨b,o,none⟩ else Option.map (fun x:Addr=>x.add p) (some ⟨b,o,none⟩)):=by
   unfold Ah
   by_cases e:cap=p
   ·rw[if_pos e,if_pos e]
   ·rw[if_neg e,if_neg e];simp[Addr.add]
  rwa[e] at this
 ·have hq0:q=0:=by simpa using hq
  subst hq0
  obtain rfl:p=0:=by omega
  refine⟨if cap=0 then a else a.map (fun x:Addr=>x.add 0),b,o,cap,rfl,by simp,hc,.inr ⟨by simp,fun hn=>?_⟩,fun i hi=>by simp at hi⟩
  by_cases e:cap=0
  ·exact e
  ·rw[if_neg e,Option.map_eq_none_iff] at hn
   exact hcn hn
end
end Go.Proofs.YtaoinbjjolikhaaGreatDoor
