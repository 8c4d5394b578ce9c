/- The texts of N35, in few letters (mini.py). -/
import Derived.Test.YtengfapcaaacaaaGreatDoorM34
set_option linter.unusedVariables false
set_option linter.unusedSimpArgs false
set_option maxRecDepth 20000
set_option maxHeartbeats 3200000
namespace Go.Proofs.YtengfapcaaacaaaGreatDoor
section
open Go.RowKit
def EG(D:bC)(s:Nat):Bool:=decide (D.label.length≤s)||(qJ D).contains s
theorem Yu{D:bC}(hw:rE D)(s:Nat)(h:EG D s=false):BF D s:=by
 unfold EG at h
 rw[Bool.or_eq_false_iff] at h
 obtain⟨h1,h2⟩:=h
 have h3:s<D.label.length:=by simpa using h1
 refine Classical.byContradiction fun hd=>?_
 have:=(Pq hw s).2 ⟨h3,hd⟩
 rw[List.contains_iff_mem.2 this] at h2
 cases h2
theorem adY{D:bC}{s:Nat}(h:s<D.label.length):EG D s=(qJ D).contains s:=by
 unfold EG
 rw[decide_eq_false (by omega),Bool.false_or]
theorem adZ{D:bC}(hw:rE D)(t:List UInt8)(at_:Nat):JC D (EG D) 0 at_ (0,at_) (t.drop at_)=(xI D t at_).getD (0,at_):=by
 rw[OU (Yu hw)]
 unfold xI
 cases nT D 0 (t.drop at_) <;> rfl
theorem dR{P:Program}{fn:Func}{p u:Tmp}{ty:TypeId}(h:fn.results=#[.cell p ty,.tmp u])(tmps:Array Value)(w:World)(g E:Nat)(cs:Array Value)(v:Value)(hp:tmps.getD p undef=.pointer (some ⟨g,0,none⟩))(hv:tmps.getD u undef=v)(hb:Box w g cs E)
  {d:TypeDesc} (hu:P.underlying ty=some d) (hd:(match d with | .struct _ | .array _ _=>true | _=>false)=true) (hi:(P.info? ty).map (·.size)=some cs.size):(results fn tmps).run P w=.ok (.tuple #[.agg cs,v]) w:=by
 have ha:(asAddr (tmps.getD p undef)).run P w=.ok ⟨g,0,none⟩ w:=by rw[hp];simp[asAddr]
 rw[results_cell_tmp h,ha]
 simp only[Result.andThen_ok,run_loadVar_row w g E ty cs (0,0) d hb hu hd hi,hv]
abbrev wH(k:Int)(a b:Nat):Array Value:=#[.int .i64 k,.int .i64 a,.int .i64 b]
theorem agl(cb pc pl:Nat)(V:aG)(D:bC)(lv:Value)(n wd lb lo nb no:Nat)(rb ro rc:Nat→Nat)(w0 w:World)(hM:yg w0 V D n wd lb lo nb no rb ro rc)(hB:Below w0.heap.size w0 w)(hb:Box w cb (nG V lv) 213)(hp:Box w pc #[.pointer (some ⟨cb,0,none⟩)] 161)
  (k:Int) (a b s e:Nat) (hs:s<n) (hl:Box w pl (wH k a b) 61) :
  Calls Tryz.prog 131 #[.int .i64 s,.int .i64 e,.pointer (some ⟨pc,0,none⟩),.pointer (some ⟨pl,0,none⟩)] w fun r w'=>(∃ v,r=.returned v)∧Box w' pl (if labS D s=0 then wH k a b else wH (labS D s) a e) 61∧w'.heap.size=w.heap.size∧(∀ i,i≠pl→w'.heap[i]?=w.heap[i]?)∧w'.os=w.os∧w'.tape=w.tape∧w'.output=w.output:=by
 have c0:w.cell? ⟨pc,0,none⟩=some (.pointer (some ⟨cb,0,none⟩)):=hp.cell 0
 have c1:w.cell? ⟨cb,258,none⟩=some (.slice (some ⟨lb,lo,none⟩) n V.lc):=by
  rw[hb.cell,zH _ _ _ (by decide),V.oV,hM.la,hM.ln]
 have c2:=hM.lab s hs w hB
 obtain⟨l1,l2⟩:=hM.lc
 have e0:=hp.lt
 have e1:=hb.lt
 have e2:=World.block_lt_of_cell? w _ c2
 have hsi:(s:Int)<(n:Int):=by omega
 have hs0:(0:Int)≤(s:Int):=by omega
 have d0:w.cell? ⟨pl,0,none⟩=some (.int .i64 k):=hl.cell 0
 have d2:w.cell? ⟨pl,2,none⟩=some (.int .i64 b):=hl.cell 2
 have f0:=hl.free 0
 have f2:=hl.free 2
 have e3:=hl.lt
 have HL:=ah hl
 clear hM hB hb hp hl
 generalize labS D s=x at *
 by_cases hx:x=0
 ·have hz:(x != 0)=false:=by simp[hx]
  rw[if_pos hx]
  go_enter Tryz.func131,Tryz.ntmps131
  go_wp2
  go_end0
  exact⟨⟨_,rfl⟩,HL.out,rfl,fun _ _=>rfl,rfl,rfl,rfl⟩
 ·have hz:(x != 0)=true:=by simp[hx]
  rw[if_neg hx]
  have h2:=(HL.out.set 0 (.int .i64 x)).set 2 (.int .i64 (e:Nat))
  have H2:=ah h2
  have d2':(w.setCell ⟨pl,0,none⟩ (.int .i64 x)).cell? ⟨pl,2,none⟩=some (.int .i64 b):=(HL.out.set 0 (.int .i64 x)).cell 2
  have f2':(w.setCell ⟨pl,0,none⟩ (.int .i64 x)).frozen? ⟨pl,2,none⟩=false:=(HL.out.set 0 (.int .i64 x)).free 2
  clear h2
  go_enter Tryz.func131,Tryz.ntmps131
  go_wp2
  go_end0
  exact⟨⟨_,rfl⟩,H2.out,by rw[World.size_setCell,World.size_setCell],fun i hi=>(heap_setCell_other _ _ _ _ hi).trans (heap_setCell_other _ _ _ _ hi),rfl,rfl,rfl⟩
def JU(D:bC)(t:List UInt8)(at_:Nat):Value:=match xI D t at_ with
 | some r=>.tuple #[.agg (wH r.1 at_ r.2),.bool true]
 | none=>.tuple #[.agg #[.int .i64 0,.int .i64 0,.int .i64 0],.bool false]
theorem Uj{D:bC}{t:List UInt8}{at_:Nat}{k:Int}{e:Nat}(h:(xI D t at_).getD (0,at_)=(k,e)):(e=at_∧JU D t at_=.tuple #[.agg #[.int .i64 0,.int .i64 0,.int .i64 0],.bool false])∨(at_<e∧JU D t at_=.tuple #[.agg (wH k at_ e),.bool true]):=by
 unfold JU
 cases htk:xI D t at_ with
 | none =>
  rw[htk,Option.getD_none] at h
  exact .inl ⟨(Prod.mk.inj h).2.symm,rfl⟩
 | some r =>
  rw[htk,Option.getD_some] at h
  subst h
  exact .inr ⟨(Gu htk).1,rfl⟩
theorem agm(qB cb vb:Nat)(V:aG)(D:bC)(w0 w:World)(hw:rE D)(hV:V.of=D.of)(n wd lb lo nb no:Nat)(rb ro rc:Nat→Nat)(hM:yg w0 V D n wd lb lo nb no rb ro rc)(hB:Below w0.heap.size w0 w)(hC:yX w qB cb vb V n (qJ D))
  (t:List UInt8) (ta:Option Addr) (tn tc at_:Nat) (hT:ak w (.slice ta tn tc) 1 bK t) (hat:at_≤t.length) (htl:t.length≤1099511627776) :
  Calls Tryz.prog 96 #[.pointer (some ⟨cb,0,none⟩),.slice ta tn tc,.int .i64 at_] w (aY w (JU D t at_)):=by
 obtain⟨tb,to_,htn,htc,ai7,hta,htx⟩:=ak.dh (f:=fun x:UInt8=>Value.int .u8 (x.toNat:Nat)) hT
 subst htn
 have hcut:=adZ hw t at_
 obtain⟨rest,hrest⟩:∃ rest,t.drop at_=rest:=⟨_,rfl⟩
 have hrl:rest.length=t.length - at_:=by rw[←hrest,List.length_drop]
 have hrx:∀ i (h:i<rest.length) (u:World),Below w.heap.size w u→u.cell? ⟨tb,to_+at_+i,none⟩=some (.int .u8 (rest[i].toNat:Nat)):=fun i h u hu=>by
  have h2:=htx (at_+i) (by omega) u hu
  rw[Nat.add_assoc,h2]
  simp only[←hrest,List.getElem_drop]
 rw[hrest] at hcut
 have ai8:=ah hcut;have HRX:=ah hrx;have zn:=ah hrl;have HW:=ah hw;have HM:=ah hM;have HB:=ah hB;have HC:=ah hC;have HTA:=ah hta;have HV:=ah hV
 clear hcut hrx hrl hw hM hB hC hta hrest htx hT hV
 have hai:(at_:Int)≤(t.length:Int):=by omega
 have ha0:(0:Int)≤(at_:Int):=by omega
 go_enter Tryz.func96,Tryz.ntmps96
 go_wp2
 refine wp_scope_straight ?_
 go_wp2
 have hbx:Box ((((w.alloc (.cells #[.pointer (some ⟨cb,0,none⟩)] 161)).alloc (.cells #[.int .i64 0,.int .i64 0,.int .i64 0] 61)).alloc (.cells #[.int .i64 0,.int .i64 at_,.int .i64 at_] 61))) w.heap.size #[.pointer (some ⟨cb,0,none⟩)] 161:=((Box.new w _ _).kept (aj _ _)).kept (aj _ _)
 have hby:Box ((((w.alloc (.cells #[.pointer (some ⟨cb,0,none⟩)] 161)).alloc (.cells #[.int .i64 0,.int .i64 0,.int .i64 0] 61)).alloc (.cells #[.int .i64 0,.int .i64 at_,.int .i64 at_] 61))) (w.heap.size+1) #[.int .i64 0,.int .i64 0,.int .i64 0] 61:=(Box.new' (World.size_alloc _ _).symm _ _).kept (aj _ _)
 have hbz:Box ((((w.alloc (.cells #[.pointer (some ⟨cb,0,none⟩)] 161)).alloc (.cells #[.int .i64 0,.int .i64 0,.int .i64 0] 61)).alloc (.cells #[.int .i64 0,.int .i64 at_,.int .i64 at_] 61))) (w.heap.size+1+1) (wH 0 at_ at_) 61:=Box.new' (by rw[World.size_alloc,World.size_alloc]) _ _
 have hb1:Below w.heap.size w ((((w.alloc (.cells #[.pointer (some ⟨cb,0,none⟩)] 161)).alloc (.cells #[.int .i64 0,.int .i64 0,.int .i64 0] 61)).alloc (.cells #[.int .i64 0,.int .i64 at_,.int .i64 at_] 61))):=(((Below.refl _ w).alloc (Nat.le_refl _) _).alloc (by simp) _).alloc (by simp;omega) _
 generalize (((w.alloc (.cells #[.pointer (some ⟨cb,0,none⟩)] 161)).alloc (.cells #[.int .i64 0,.int .i64 0,.int .i64 0] 61)).alloc (.cells #[.int .i64 0,.int .i64 at_,.int .i64 at_] 61))=w1 at *
 refine wp_label ?_
 have hylt:=hby.lt
 have am3:=hbz.lt
 by_cases hx:tc=at_
 ·subst hx
  have hr0:rest=[]:=List.eq_nil_of_length_eq_zero (by rw[zn.out];omega)
  have htok:xI D t tc=none:=by
   cases hk:xI D t tc with
   | none=>rfl
   | some r=>obtain⟨k,e⟩:=r;have:=Gu hk;omega
  have hret:JU D t tc=.tuple #[.agg #[.int .i64 0,.int .i64 0,.int .i64 0],.bool false]:=by unfold JU;rw[htok]
  rw[hret]
  have hz:t.length - tc=0:=by omega
  obtain⟨z,hzz⟩:∃ z,t.length - tc=z:=⟨_,rfl⟩
  have HB1:=ah hb1;have yE:=ah hby;have HBZ:=ah hbz
  clear hb1 hbx
  go_wp2
  go_loopw [21] (fun v21 wr=>v21=.int .i64 0∧wr=w1) (fun v21 _=>0)
  case atStart=>exact⟨rfl,rfl⟩
  case round =>
   obtain⟨rfl,hwr⟩:=hrel
   rw[←hwr] at HB1 yE HBZ hylt am3
   have hzi:decide ((0:Int)<((t.length - tc:Nat):Int))=false:=by simp;omega
   have d2:wr.cell? ⟨w.heap.size+1+1,2,none⟩=some (.int .i64 tc):=HBZ.out.cell 2
   have y0:wr.cell? ⟨w.heap.size+1,0,none⟩=some (.int .i64 0):=yE.out.cell 0
   have y1:wr.cell? ⟨w.heap.size+1,1,none⟩=some (.int .i64 0):=yE.out.cell 1
   have y2:wr.cell? ⟨w.heap.size+1,2,none⟩=some (.int .i64 0):=yE.out.cell 2
   have f0:=yE.out.free 0
   have f1:=yE.out.free 1
   have f2:=yE.out.free 2
   have hfin:=((yE.out.set 0 (.int .i64 0)).set 1 (.int .i64 0)).set 2 (.int .i64 0)
   have yU:=ah hfin
   clear hwr hfin
   go_wp2
   refine bodyPost_ret (dR rfl _ _ (w.heap.size+1) 61 _ (.bool false) rfl rfl yU.out Tryz.underlying61 rfl (by kernel_rfl)) rfl ?_
   exact⟨by rw[hret];rfl,((HB1.out.setCell (by simp) _).setCell (by simp) _).setCell (by simp) _⟩
 ·have hne:(tc=at_)=False:=eq_false hx
  have hsa:∀ i,i<rest.length→Option.map (fun x:Addr=>x.add at_) ta=some ⟨tb,to_+at_,none⟩:=fun i hi=>by
   rw[HTA.out 0 (by rw[zn.out] at hi;omega)]
   simp[Addr.add]
  have HSA:=ah hsa;have HB1:=ah hb1;have EW:=ah hbx;have yE:=ah hby;have HBZ:=ah hbz
  obtain⟨m,hm⟩:∃ m,t.length - at_=m:=⟨_,rfl⟩
  have Uc:=ah hm
  obtain⟨R,hR⟩:∃ R,(xI D t at_).getD (0,at_)=R:=⟨_,rfl⟩
  have hcut:=ai8.out
  rw[hR] at hcut
  have HR:=ah hR;have Ui:=ah hcut
  have hn1:=HM.out.nb1
  clear hsa hb1 hbx hby hbz hm hR hcut ai8
  go_wp2
  generalize Option.map (fun x:Addr=>x.add at_) ta=sa at *
  have hml:m≤tc - at_:=by have:=Uc.out;omega
  rw[Uc.out]
  go_loopw [10,21] (fun v10 v21 wr=>∃ (i s:Nat) (k:Int) (e:Nat),i≤m∧v21=.int .i64 i∧v10=.int .i64 s∧s<n∧Box wr (w.heap.size+1+1) (wH k at_ e) 61∧Box wr w.heap.size #[.pointer (some ⟨cb,0,none⟩)] 161∧Box wr (w.heap.size+1) #[.int .i64 0,.int .i64 0,.int .i64 0] 61∧Below w.heap.size w wr∧JC D (EG D) s (at_+i) (k,e) (rest.drop i)=R) (fun _ v21 _=>m - (intOf v21).toNat)
  case atStart=>exact⟨0,0,0,at_,Nat.zero_le _,rfl,rfl,hn1.1,HBZ.out,EW.out,yE.out,HB1.out,by rw[List.drop_zero,Nat.add_zero];exact Ui.out⟩
  case round =>
   obtain⟨i,s,k,e,hi,rfl,rfl,hs,hz,hx,hy,hBw,hcut⟩:=hrel
   by_cases hlt:i<m
   ·have hlr:i<rest.length:=by rw[zn.out,Uc.out];exact hlt
    obtain rfl:=HSA.out i hlr
    have c0:=HRX.out i hlr wr hBw
    rw[List.drop_eq_getElem_cons hlr,JC] at hcut
    generalize rest[i]=b at *
    have hbl:=World.block_lt_of_cell? wr _ c0
    have hii:(i:Int)<(m:Int):=by omega
    have hi0:(0:Int)≤(i:Int):=by omega
    have Yv:Below w0.heap.size w0 wr:=HB.out.trans (hBw.mono HB.out.size)
    obtain⟨hc1,hc2⟩:=HM.out.cap s hs
    obtain⟨aqs,yS⟩:=HM.out.nc
    have hob:=HM.out.of b.toNat b.toNat_lt
    have hto:=HM.out.lt s hs _ hob
    have hgo:oW D s b=stepD D s (D.of b.toNat):=ac7 D s b
    rw[hgo] at hcut
    have hDr:Below wr.heap.size wr wr.drew:=(Below.refl _ _).drew
    have HF:Hid (∀ u,Later wr.drew u→Box u w.heap.size #[.pointer (some ⟨cb,0,none⟩)] 161∧u.cell? ⟨cb,257,none⟩=some (.slice (some ⟨nb,no,none⟩) n V.nc)∧u.cell? ⟨cb,b.toNat,none⟩=some (.int .u8 (D.of b.toNat:Nat))∧u.cell? ⟨nb,no+s,none⟩=some (.slice (some ⟨rb s,ro s,none⟩) wd (rc s))∧u.cell? ⟨rb s,ro s+D.of b.toNat,none⟩=some (.int .i64 (stepD D s (D.of b.toNat):Nat))∧Below wr.heap.size wr u):=ah fun u hu=>by
     have h1:Below wr.heap.size wr u:=hDr.trans (hu.mono hDr.size)
     have h2:Below w0.heap.size w0 u:=Yv.trans (h1.mono Yv.size)
     have h3:=((HC.out.kept hBw).kept h1).box
     refine⟨hx.kept h1,?_,?_,HM.out.row s hs u h2,HM.out.cel s hs _ hob u h2,h1⟩
     ·rw[h3.cell,zH _ _ _ (by decide),V.Em,HM.out.na,HM.out.nn]
     ·rw[h3.cell,zH _ _ _ (by have:=b.toNat_lt;omega),V.LD _ b.toNat_lt,HV.out]
    have HZ:=ah hz;have HY:=ah hy;have HX:=ah hx;have jG:=ah hBw;have HCT:=ah hcut;have am4:=ah Yv
    have hbt:=b.toNat_lt
    generalize b.toNat=bn at *
    generalize D.of bn=ob at *
    generalize stepD D s ob=s2 at *
    generalize rb s=rbs at *
    generalize ro s=ros at *
    generalize rc s=rcs at *
    have hsi:(s:Int)<(n:Int):=by omega
    have hs0:(0:Int)≤(s:Int):=by omega
    have hoi:(ob:Int)<(wd:Int):=by omega
    have ho0:(0:Int)≤(ob:Int):=by omega
    have hbi:(bn:Int)<256:=by omega
    have hb0:(0:Int)≤(bn:Int):=by omega
    clear hz hx hy hBw hcut Yv hDr hgo
    go_wp2_with fail
    refine aA (R:=Later) 18 (by kernel_rfl) ?_
    refine pl [0,1,2,3,4,5,6,7,8,9,10,11,12,13,14,15,16,17] ?_
    repeat
     refine dI ?_ rfl (fun w1 hl=>?_) ?_
     rotate_left
     ·obtain⟨hX,q1,q2,q3,q4,hq⟩:=HF.out w1 hl;have x0:w1.cell? ⟨w.heap.size,0,none⟩=some (.pointer (some ⟨cb,0,none⟩)):=hX.cell 0;have l0:=hX.lt;have l1:=World.block_lt_of_cell? w1 _ q1;have l2:=World.block_lt_of_cell? w1 _ q3;have l3:=World.block_lt_of_cell? w1 _ q4;go_simp;try with_reducible rfl
     simp only[eA,eB,eC,Act.put,eD,eE,eF]
    refine bU ?_
    refine aH (by kernel_rfl) (fun w1 hl=>?_) _
    obtain⟨hX1,_,_,_,_,Yw⟩:=HF.out w1 hl
    have hBw1:=jG.out.trans (Yw.mono jG.out.size)
    have hZ1:=HZ.out.kept Yw
    have hC1:=HC.out.kept hBw1
    have hkp:=agl cb w.heap.size (w.heap.size+1+1) V D (.slice (some ⟨vb,0,none⟩) n n) n wd lb lo nb no rb ro rc w0 w1 HM.out (HB.out.trans (hBw1.mono HB.out.size)) hC1.box hX1 k at_ e s2 (at_+i+1) hto hZ1
    rw[show((at_+i+1:Nat):Int)=(at_:Int)+(i:Int)+1 by omega] at hkp
    have DF:=ah hkp;have KT:=ah hC1;have HX1:=ah hX1;have HY1:=ah (HY.out.kept Yw);have Oa:=ah hBw1
    have aqt:m≤1099511627776:=by have:=Uc.out;omega
    clear hX1 Yw hBw1 hZ1 hC1 hkp HF HZ HY HX jG am4 hl c0
    go_wp2_with fail
    refine DF.out.mono ?_
    rintro r w2 ⟨⟨v,rfl⟩,hZ2,hs2,ho2,o1,o2,o3⟩
    obtain⟨k2,e2,hke⟩:∃ (k2:Int) (e2:Nat),(if labS D s2=0 then (k,e) else (labS D s2,at_+i+1))=(k2,e2):=⟨_,_,rfl⟩
    have hZ3:Box w2 (w.heap.size+1+1) (wH k2 at_ e2) 61:=by
     by_cases h0:labS D s2=0
     ·rw[if_pos h0] at hke hZ2
      obtain⟨rfl,rfl⟩:=Prod.mk.inj hke
      exact hZ2
     ·rw[if_neg h0] at hke hZ2
      obtain⟨rfl,rfl⟩:=Prod.mk.inj hke
      exact hZ2
    have hcut:=HCT.out
    rw[hke,adY (by rw[HM.out.nl];exact hto)] at hcut
    have hBw2:Below w.heap.size w w2:=⟨o1.trans Oa.out.os,o2.trans Oa.out.tape,o3.trans Oa.out.output,by rw[hs2];exact Oa.out.size,fun b hb=>(ho2 b (by omega)).trans (Oa.out.block b hb)⟩
    have hC2:=HC.out.kept hBw2
    have hX2:Box w2 w.heap.size #[.pointer (some ⟨cb,0,none⟩)] 161:=(ho2 _ (by omega)).trans HX1.out
    have hY2:Box w2 (w.heap.size+1) #[.int .i64 0,.int .i64 0,.int .i64 0] 61:=(ho2 _ (by omega)).trans HY1.out
    have x0:w2.cell? ⟨w.heap.size,0,none⟩=some (.pointer (some ⟨cb,0,none⟩)):=hX2.cell 0
    have x1:w2.cell? ⟨cb,260,none⟩=some (.slice (some ⟨vb,0,none⟩) n n):=(hC2.box.cell 260).trans (CZ _ _)
    have hsl:=qm n (qJ D)
    obtain⟨g1,g2,g3,g4⟩:=hC2.live.cellAt (i:=s2) (j:=0) (by rw[hsl];exact hto) (by decide)
    rw[show s2*1+0=s2 by omega,Eu] at g1
    have g1':w2.cell? ⟨vb,s2,none⟩=some (.bool ((qJ D).contains s2)):=by rw[g1];rfl
    have l0:=hX2.lt
    have l1:=hC2.box.lt
    have aqu:(s2:Int)<(n:Int):=by omega
    have aqv:(0:Int)≤(s2:Int):=by omega
    have HZ:=ah hZ3;have HX:=ah hX2;have HY:=ah hY2;have jG:=ah hBw2;have IY:=ah hcut
    clear hZ2 hZ3 hX2 hY2 hBw2 hC2 hke hcut g1 g2 o1 o2 o3 ho2 DF KT HX1 HY1 Oa HCT
    cases hlv:(qJ D).contains s2 with
    | true =>
     rw[hlv] at g1' IY
     rw[if_pos rfl] at IY
     go_wp2
     exact⟨⟨i+1,s2,k2,e2,hlt,by push_cast;rfl,rfl,hto,HZ.out,HX.out,HY.out,jG.out,by rw[←Nat.add_assoc];exact IY.out⟩,by simp[intOf];omega⟩
    | false =>
     rw[hlv] at g1' IY
     rw[if_neg (by simp)] at IY
     generalize k2=k9 at *
     generalize e2=e9 at *
     rcases Uj (HR.out.trans IY.out.symm) with⟨rfl,hret⟩ | ⟨am5,hret⟩
     ·have d2:w2.cell? ⟨w.heap.size+1+1,2,none⟩=some (.int .i64 e9):=HZ.out.cell 2
      have y0:w2.cell? ⟨w.heap.size+1,0,none⟩=some (.int .i64 0):=HY.out.cell 0
      have y1:w2.cell? ⟨w.heap.size+1,1,none⟩=some (.int .i64 0):=HY.out.cell 1
      have y2:w2.cell? ⟨w.heap.size+1,2,none⟩=some (.int .i64 0):=HY.out.cell 2
      have f0:=HY.out.free 0
      have f1:=HY.out.free 1
      have f2:=HY.out.free 2
      have ly:=HY.out.lt
      have lz:=HZ.out.lt
      have yU:=ah (((HY.out.set 0 (.int .i64 0)).set 1 (.int .i64 0)).set 2 (.int .i64 0))
      go_wp2
      refine bodyPost_ret (dR rfl _ _ (w.heap.size+1) 61 _ (.bool false) rfl rfl yU.out Tryz.underlying61 rfl (by kernel_rfl)) rfl ?_
      exact⟨by rw[hret];rfl,((jG.out.setCell (by simp) _).setCell (by simp) _).setCell (by simp) _⟩
     ·have d0:w2.cell? ⟨w.heap.size+1+1,0,none⟩=some (.int .i64 k9):=HZ.out.cell 0
      have d1:w2.cell? ⟨w.heap.size+1+1,1,none⟩=some (.int .i64 at_):=HZ.out.cell 1
      have d2:w2.cell? ⟨w.heap.size+1+1,2,none⟩=some (.int .i64 e9):=HZ.out.cell 2
      have y0:w2.cell? ⟨w.heap.size+1,0,none⟩=some (.int .i64 0):=HY.out.cell 0
      have y1:w2.cell? ⟨w.heap.size+1,1,none⟩=some (.int .i64 0):=HY.out.cell 1
      have y2:w2.cell? ⟨w.heap.size+1,2,none⟩=some (.int .i64 0):=HY.out.cell 2
      have f0:=HY.out.free 0
      have f1:=HY.out.free 1
      have f2:=HY.out.free 2
      have ly:=HY.out.lt
      have lz:=HZ.out.lt
      have hnq:((e9:Int)==(at_:Int))=false:=by simp;omega
      have yU:=ah (((HY.out.set 0 (.int .i64 k9)).set 1 (.int .i64 at_)).set 2 (.int .i64 e9))
      go_wp2
      refine bodyPost_ret (dR rfl _ _ (w.heap.size+1) 61 _ (.bool true) rfl rfl yU.out Tryz.underlying61 rfl (by kernel_rfl)) rfl ?_
      exact⟨by rw[hret];rfl,((jG.out.setCell (by simp) _).setCell (by simp) _).setCell (by simp) _⟩
   ·obtain rfl:i=m:=by omega
    rw[List.drop_of_length_le (by rw[zn.out,Uc.out];exact Nat.le_refl _),JC] at hcut
    have HZ:=ah hz;have HY:=ah hy;have jG:=ah hBw;have IY:=ah hcut
    clear hz hy hBw hcut hx
    generalize k=k9 at *
    generalize e=e9 at *
    rcases Uj (HR.out.trans IY.out.symm) with⟨rfl,hret⟩ | ⟨am5,hret⟩
    ·have d2:wr.cell? ⟨w.heap.size+1+1,2,none⟩=some (.int .i64 e9):=HZ.out.cell 2
     have y0:wr.cell? ⟨w.heap.size+1,0,none⟩=some (.int .i64 0):=HY.out.cell 0
     have y1:wr.cell? ⟨w.heap.size+1,1,none⟩=some (.int .i64 0):=HY.out.cell 1
     have y2:wr.cell? ⟨w.heap.size+1,2,none⟩=some (.int .i64 0):=HY.out.cell 2
     have f0:=HY.out.free 0
     have f1:=HY.out.free 1
     have f2:=HY.out.free 2
     have ly:=HY.out.lt
     have lz:=HZ.out.lt
     have yU:=ah (((HY.out.set 0 (.int .i64 0)).set 1 (.int .i64 0)).set 2 (.int .i64 0))
     go_wp2
     refine bodyPost_ret (dR rfl _ _ (w.heap.size+1) 61 _ (.bool false) rfl rfl yU.out Tryz.underlying61 rfl (by kernel_rfl)) rfl ?_
     exact⟨by rw[hret];rfl,((jG.out.setCell (by simp) _).setCell (by simp) _).setCell (by simp) _⟩
    ·have d0:wr.cell? ⟨w.heap.size+1+1,0,none⟩=some (.int .i64 k9):=HZ.out.cell 0
     have d1:wr.cell? ⟨w.heap.size+1+1,1,none⟩=some (.int .i64 at_):=HZ.out.cell 1
     have d2:wr.cell? ⟨w.heap.size+1+1,2,none⟩=some (.int .i64 e9):=HZ.out.cell 2
     have y0:wr.cell? ⟨w.heap.size+1,0,none⟩=some (.int .i64 0):=HY.out.cell 0
     have y1:wr.cell? ⟨w.heap.size+1,1,none⟩=some (.int .i64 0):=HY.out.cell 1
     have y2:wr.cell? ⟨w.heap.size+1,2,none⟩=some (.int .i64 0):=HY.out.cell 2
     have f0:=HY.out.free 0
     have f1:=HY.out.free 1
     have f2:=HY.out.free 2
     have ly:=HY.out.lt
     have lz:=HZ.out.lt
     have hnq:((e9:Int)==(at_:Int))=false:=by simp;omega
     have yU:=ah (((HY.out.set 0 (.int .i64 k9)).set 1 (.int .i64 at_)).set 2 (.int .i64 e9))
     go_wp2
     refine bodyPost_ret (dR rfl _ _ (w.heap.size+1) 61 _ (.bool true) rfl rfl yU.out Tryz.underlying61 rfl (by kernel_rfl)) rfl ?_
     exact⟨by rw[hret];rfl,((jG.out.setCell (by simp) _).setCell (by simp) _).setCell (by simp) _⟩
end
section
open Go.RowKit
theorem Uk{P:Program}{o:Oper}{a:Act}{w:World}(ty:TypeId)(x:Operand)(ho:o.op=.load ty x)(b off:Nat)(hx:a.eval x=.pointer (some ⟨b,off,none⟩)){cs:List Value}{d:TypeDesc}(hc:w.rangeAt b off cs)
  (hu:P.underlying ty=some d) (hd:d.isRow=true) (hi:(P.info? ty).map (·.size)=some cs.length):(execOp a.eval o).run P w=.ok (.value (.agg cs.toArray)) w:=by
 unfold execOp
 simp only[ho,hx,Instr.loadAt,Instr.sureAddr,Sem.run_bind,Sem.run_pure,Result.andThen_ok,run_loadVar_mid w b off ty cs d hc hu hd hi]
theorem JV{place:Nat→Option (Nat×Nat)}{cells:Array Value}{i off:Nat}{v:Value}{rest:List (Nat×Value)}(hp:place i=some (off,1))(hv:v.cells=#[v])(hs:off+1≤cells.size):Instr.fill place cells ((i,v)::rest)=Instr.fill place (cells.setIfInBounds off v) rest:=by
 show(match place i with | none=>none | some (off,size)=>if (v.cells.size≠size||off+v.cells.size > cells.size)=true then none else Instr.fill place (v.cells.zipIdx.foldl (fun cs (c,j)=>cs.setIfInBounds (off+j) c) cells) rest)=_
 rw[hp]
 dsimp only
 rw[hv,if_neg (by simp;omega)]
 rfl
theorem abl{place:Nat→Option (Nat×Nat)}{cells:Array Value}{i off size:Nat}{v:Value}{rest:List (Nat×Value)}(hp:place i=some (off,size))(hz:v.cells.size=size)(hs:off+size≤cells.size):Instr.fill place cells ((i,v)::rest)=Instr.fill place (v.cells.zipIdx.foldl (fun cs (x:Value×Nat)=>cs.setIfInBounds (off+x.2) x.1) cells) rest:=by
 show(match place i with | none=>none | some (off,size)=>if (v.cells.size≠size||off+v.cells.size > cells.size)=true then none else Instr.fill place (v.cells.zipIdx.foldl (fun cs (c,j)=>cs.setIfInBounds (off+j) c) cells) rest)=_
 rw[hp]
 dsimp only
 rw[if_neg (by simp[hz];omega)]
theorem Ul{V:aG}{c:Array Value}(hs:c.size=260)(h0:∀ i,i<256→c[i]?=some (.int .u8 (V.of i:Nat)))(h1:c[256]?=some (.int .i64 V.width))(h2:c[257]?=some (.slice V.na V.nn V.nc))(h3:c[258]?=some (.slice V.la V.ln V.lc))(h4:c[259]?=some (.slice V.ma V.mn V.mc)):c=V.cells:=by
 apply Array.ext_getElem?
 intro i
 by_cases a:i<256
 ·rw[h0 i a,V.LD i a]
 ·by_cases e:i<260
  ·obtain rfl | rfl | rfl | rfl:i=256∨i=257∨i=258∨i=259:=by omega
   ·rw[h1,V.Gq]
   ·rw[h2,V.Em]
   ·rw[h3,V.oV]
   ·rw[h4,V.Gs]
  ·rw[Array.getElem?_eq_none (by omega),Array.getElem?_eq_none (by rw[aG.size];omega)]
theorem Pv(f:Nat→Nat)(wd:Int)(na ma:Option Addr)(nn nc mn mc:Nat):Tryz.prog.built 27 [(0,.agg (aS f)),(1,.int .i64 wd),(2,.slice na nn nc),(4,.slice ma mn mc)]=some (aG.cells ⟨f,wd,na,nn,nc,none,0,0,ma,mn,mc⟩):=by
 obtain⟨it,hi⟩:∃ it,Tryz.prog.info? 27=some it:=Option.isSome_iff_exists.1 (by kernel_rfl)
 have hz0:(Tryz.prog.info? 27).map (fun it=>it.zero.map (fun z=>(z.cells.size,z.cells[258]?)))=some (some (260,some (.slice none 0 0))):=by kernel_rfl
 rw[hi] at hz0
 simp only[Option.map_some,Option.some.injEq] at hz0
 obtain⟨z,hz,hzs⟩:=Option.map_eq_some_iff.1 hz0
 obtain⟨hzs,hz8⟩:=Prod.mk.inj hzs
 rw[Hf (places:=[(0,256),(256,1),(257,1),(258,1),(259,1)]) _ hi Tryz.underlying27 hz (by kernel_rfl)]
 have hs:=aV f
 have MR:=wG 0 (aS f).toList 0 z.cells
 have hgg:=fun i=>ED 0 (aS f).toList 0 z.cells i (by rw[Array.length_toList];omega)
 rw[←EF] at MR
 simp only[←EF] at hgg
 have e0:=abl (place:=(([(0,256),(256,1),(257,1),(258,1),(259,1)]:List (Nat×Nat)).toArray[·]?)) (cells:=z.cells) (i:=0) (off:=0) (size:=256) (v:=.agg (aS f)) (rest:=[(1,.int .i64 wd),(2,.slice na nn nc),(4,.slice ma mn mc)]) rfl hs (by omega)
 refine e0.trans ?_
 show Instr.fill _ ((aS f).zipIdx.foldl (fun cs (x:Value×Nat)=>cs.setIfInBounds (0+x.2) x.1) z.cells) _=_
 generalize (aS f).zipIdx.foldl (fun cs (x:Value×Nat)=>cs.setIfInBounds (0+x.2) x.1) z.cells=F at *
 rw[JV (off:=256) rfl rfl (by omega),JV (off:=257) rfl rfl (by rw[Array.size_setIfInBounds];omega),JV (off:=259) rfl rfl (by rw[Array.size_setIfInBounds,Array.size_setIfInBounds];omega)]
 refine congrArg some (Ul (by rw[Array.size_setIfInBounds,Array.size_setIfInBounds,Array.size_setIfInBounds];omega) (fun i h=>?_) ?_ ?_ ?_ ?_)
 ·rw[Array.getElem?_setIfInBounds_ne (by omega),Array.getElem?_setIfInBounds_ne (by omega),Array.getElem?_setIfInBounds_ne (by omega),hgg i,if_pos (by rw[Array.length_toList];omega),Array.getElem?_toList,show i - (0+0)=i by omega,dS _ _ h]
 ·rw[Array.getElem?_setIfInBounds_ne (by omega),Array.getElem?_setIfInBounds_ne (by omega),Array.getElem?_setIfInBounds,if_pos rfl,if_pos (by omega)]
 ·rw[Array.getElem?_setIfInBounds_ne (by omega),Array.getElem?_setIfInBounds,if_pos rfl,if_pos (by rw[Array.size_setIfInBounds];omega)]
 ·rw[Array.getElem?_setIfInBounds_ne (by omega),Array.getElem?_setIfInBounds_ne (by omega),Array.getElem?_setIfInBounds_ne (by omega),hgg 258,if_neg (by rw[Array.length_toList];omega),hz8]
 ·rw[Array.getElem?_setIfInBounds,if_pos rfl,if_pos (by rw[Array.size_setIfInBounds,Array.size_setIfInBounds];omega)]
end
section
open Go.RowKit
def Vz:aG:=⟨fun _=>0,0,none,0,0,none,0,0,none,0,0⟩
theorem jH:Tryz.zeroCells27=Vz.cells:=by kernel_rfl
def yM(w:World)(r:Sum Nat bC)(e:Ending)(w':World):Prop :=
 Below w.heap.size w w'∧match r with
 | .inl c=>e=.returned (.tuple #[.agg Vz.cells,.int .i64 c])
 | .inr D=>∃ V:aG,e=.returned (.tuple #[.agg V.cells,.int .i64 0])∧(∀ u:World,(∀ b,w.heap.size≤b→b<w'.heap.size→u.heap[b]?=w'.heap[b]?)→iJ u V D)∧V.of=D.of
def DI(N:Nf)(names:List (List UInt8))(most:Nat):Sum Nat bC :=
 if yL N names=true then (match jQ N most (gX N) (most+1) 0 [fM N [0]] [] with
  | none=>.inl 7
  | some (sets,next)=>.inr ⟨bf (RL (N.edges.map (·.2.1))),((gX N).length:Nat),next,sets.map (iG N),names⟩) else .inl 6
theorem PN(l:List (List UInt8)):(l.map bs).map Value.string=l.flatMap kV:=by
 induction l with
 | nil=>rfl
 | cons x l ih=>rw[List.map_cons,List.map_cons,ih,List.flatMap_cons];rfl
theorem Vg(l:List (List UInt8))(a:Option Addr)(n cap:Nat)(w:World)(h:ak w (.slice a n cap) 1 kV l)(hl:l.length≤1099511627776) :
  Calls Tryz.prog 110 #[.slice a n cap] w (iU w 9 1 kV l):=by
 obtain⟨b,o,hn,hc,hc2,ha,hx⟩:=h.dh (f:=fun x=>sv x)
 subst hn
 by_cases h0:l.length=0
 ·obtain rfl:l=[]:=List.eq_nil_of_length_eq_zero h0
  cases a with
  | none =>
   refine(Tryz.slices_Clone_string_nil 0 cap w).mono fun e w' ⟨he,hw⟩=>?_
   exact⟨none,0,he,Own.nil _ _ _ _ _,hw▸Below.refl _ _⟩
  | some ad =>
   refine(Tryz.slices_Clone_string_zero ad cap w).mono fun e w' he=>?_
   obtain⟨v',rfl,hr,_,hB⟩:=he
   have ho:Own w' w.heap.size 9 1 kV v' []:=Own.ofRow hr xw
   obtain⟨a',c',rfl⟩:=ho.form
   exact⟨a',c',rfl,ho,hB⟩
 ·obtain rfl:=ha 0 (by omega)
  have:=Tryz.slices_Clone_string b o l.length cap (l.map bs) w (by simp) (by omega) (fun j hj=>by
   have hj2:j<l.length:=by simpa using hj
   rw[hx j hj2 w (Below.refl _ _)]
   simp[List.getD,hj2])
  refine this.mono fun e w' he=>?_
  obtain⟨v',rfl,hr,_,hB⟩:=he
  have e1:((l.map bs).take l.length).map Value.string=l.flatMap kV:=by rw[List.take_of_length_le (by simp)];exact PN l
  rw[e1] at hr
  have ho:Own w' w.heap.size 9 1 kV v' l:=Own.ofRow hr xw
  obtain⟨a',c',rfl⟩:=ho.form
  exact⟨a',c',rfl,ho,hB⟩
theorem abm(N:Nf)(V:Y3)(names:List (List UInt8))(na:Option Addr)(nc most:Nat)(w:World)(h:sZ w N V)(hw:N.wf)(h0:0<N.states)(hs:N.states≤65536)(hn:ak w (.slice na names.length nc) 1 kV names)(hnl:∀ x∈names,x.length≤9223372036854775807)
  (hno:yL N names=false) :
  Calls Tryz.prog 66 #[.agg (dF N V),.slice na names.length nc,.int .i64 most] w (yM w (.inl 6)):=by
 have hB0:=aj w (.cells (dF N V) 121)
 have hbx:=Box.new w (dF N V) 121
 have hB1:=hB0.alloc hB0.size (.cells Vz.cells 27)
 have hby:Box ((w.alloc (.cells (dF N V) 121)).alloc (.cells Vz.cells 27)) (w.heap.size+1) Vz.cells 27:=Box.new' (World.size_alloc _ _).symm _ _
 have dO:=hbx.kept (aj (w.alloc (.cells (dF N V) 121)) (.cells Vz.cells 27))
 have HN:=ah (fun u hu=>hno▸He N V names na nc u (h.kept hu) hw h0 hs (hn.kept hu) hnl)
 obtain⟨vl,ve,va⟩:=V
 obtain⟨la,lc,hvl⟩:=h.li.form
 obtain⟨ea,ec,lZ⟩:=h.ed.form
 obtain⟨aa,ac,hva⟩:=h.ac.form
 dsimp only at hvl lZ hva
 subst hvl
 subst lZ
 subst hva
 have hsz:Vz.cells.size=260:=aG.size _
 clear h hw hn hnl hno
 unfold dF at *
 dsimp only at *
 generalize hW1:((w.alloc (.cells #[.int .i64 N.states,.int .i64 0,.slice la N.links.length lc,.slice ea N.edges.length ec,.slice aa N.accept.length ac] 121)).alloc (.cells Vz.cells 27))=W1 at *
 have HW1:=ah hW1
 have x0:W1.cell? ⟨w.heap.size,0,none⟩=some (.int .i64 N.states):=dO.cell 0
 have x1:W1.cell? ⟨w.heap.size,1,none⟩=some (.int .i64 0):=dO.cell 1
 have x2:W1.cell? ⟨w.heap.size,2,none⟩=some (.slice la N.links.length lc):=dO.cell 2
 have x3:W1.cell? ⟨w.heap.size,3,none⟩=some (.slice ea N.edges.length ec):=dO.cell 3
 have x4:W1.cell? ⟨w.heap.size,4,none⟩=some (.slice aa N.accept.length ac):=dO.cell 4
 have lx:=dO.lt
 clear hW1 hbx hB0
 go_enter Tryz.func66,Tryz.ntmps66
 go_wp2_with (first | (with_reducible refine Halt.go (p:=wpList _ _ _ ({ dst:=some 15,op:=_,type:=_,pos:=_,after:=_,guard:=_ }::_) _ _) ?_) | fail)
 simp only[jH,HW1.out]
 unfold Halt
 go_wp2_with (first | (go_at_call 108;go_must (refine(HN.out _ hB1).mono ?_;rintro e w2 ⟨rfl,hb2⟩;have hy2:=hby.kept hb2)) | (simp only[jH];refine wpList_store_row rfl 27 _ _ rfl (w.heap.size+1) _ rfl rfl _ _ hy2 (bQ _) rfl (aG.all _) ?_))
 have hfin:=hy2.setRow Vz.cells
 refine bodyPost_ret (dR rfl _ _ (w.heap.size+1) 27 _ (.int .i64 6) rfl rfl hfin Tryz.underlying27 rfl (bQ _)) rfl ?_
 exact⟨below_setRow (hB1.trans (hb2.mono hB1.size)) (by omega) _,rfl⟩
theorem Yx(N:Nf)(V:Y3)(names:List (List UInt8))(na:Option Addr)(nc most:Nat)(w:World)(h:sZ w N V)(hw:N.wf)(h0:0<N.states)(hs:N.states≤65536)(hn:ak w (.slice na names.length nc) 1 kV names)(hnl:∀ x∈names,x.length≤9223372036854775807)
  (hlk:N.links.length≤1099511627776) (he:N.edges.length≤65536) (hm1:1≤most) (hm2:most≤65536) (hT:Tab w) (hyes:yL N names=true)
  (hbig:jQ N most (gX N) (most+1) 0 [fM N [0]] []=none) :
  Calls Tryz.prog 66 #[.agg (dF N V),.slice na names.length nc,.int .i64 most] w (yM w (.inl 7)):=by
 have hB0:=aj w (.cells (dF N V) 121)
 have hbx:=Box.new w (dF N V) 121
 have hB1:=hB0.alloc hB0.size (.cells Vz.cells 27)
 have hby:Box ((w.alloc (.cells (dF N V) 121)).alloc (.cells Vz.cells 27)) (w.heap.size+1) Vz.cells 27:=Box.new' (World.size_alloc _ _).symm _ _
 have dO:=hbx.kept (aj (w.alloc (.cells (dF N V) 121)) (.cells Vz.cells 27))
 have HN:=ah (fun u hu=>hyes▸He N V names na nc u (h.kept hu) hw h0 hs (hn.kept hu) hnl)
 have HO:=ah (fun u hu=>by
  have h1:=aa9 N V most u (h.kept hu) hw h0 hs hlk he hm1 hm2 (hT.kept hu)
  unfold Qj at h1
  rw[hbig] at h1
  exact h1)
 obtain⟨vl,ve,va⟩:=V
 obtain⟨la,lc,hvl⟩:=h.li.form
 obtain⟨ea,ec,lZ⟩:=h.ed.form
 obtain⟨aa,ac,hva⟩:=h.ac.form
 dsimp only at hvl lZ hva
 subst hvl
 subst lZ
 subst hva
 have hsz:Vz.cells.size=260:=aG.size _
 clear h hw hn hnl hyes hbig hT
 unfold dF at *
 dsimp only at *
 generalize hW1:((w.alloc (.cells #[.int .i64 N.states,.int .i64 0,.slice la N.links.length lc,.slice ea N.edges.length ec,.slice aa N.accept.length ac] 121)).alloc (.cells Vz.cells 27))=W1 at *
 have HW1:=ah hW1
 have x0:W1.cell? ⟨w.heap.size,0,none⟩=some (.int .i64 N.states):=dO.cell 0
 have x1:W1.cell? ⟨w.heap.size,1,none⟩=some (.int .i64 0):=dO.cell 1
 have x2:W1.cell? ⟨w.heap.size,2,none⟩=some (.slice la N.links.length lc):=dO.cell 2
 have x3:W1.cell? ⟨w.heap.size,3,none⟩=some (.slice ea N.edges.length ec):=dO.cell 3
 have x4:W1.cell? ⟨w.heap.size,4,none⟩=some (.slice aa N.accept.length ac):=dO.cell 4
 have lx:=dO.lt
 clear hW1 hbx hB0
 go_enter Tryz.func66,Tryz.ntmps66
 go_wp2_with (first | (with_reducible refine Halt.go (p:=wpList _ _ _ ({ dst:=some 15,op:=_,type:=_,pos:=_,after:=_,guard:=_ }::_) _ _) ?_) | fail)
 simp only[jH,HW1.out]
 unfold Halt
 go_wp2_with (first | (go_at_call 108;go_must (refine(HN.out _ hB1).mono ?_;rintro e w2 ⟨rfl,hb2⟩;have hy2:=hby.kept hb2;have hx2:=dO.kept hb2;have hB2:=hB1.trans (hb2.mono hB1.size);have z0:w2.cell? ⟨w.heap.size,0,none⟩=some (.int .i64 N.states):=hx2.cell 0;have z1:w2.cell? ⟨w.heap.size,1,none⟩=some (.int .i64 0):=hx2.cell 1;have z2:w2.cell? ⟨w.heap.size,2,none⟩=some (.slice la N.links.length lc):=hx2.cell 2;have z3:w2.cell? ⟨w.heap.size,3,none⟩=some (.slice ea N.edges.length ec):=hx2.cell 3;have z4:w2.cell? ⟨w.heap.size,4,none⟩=some (.slice aa N.accept.length ac):=hx2.cell 4;have lz:=hx2.lt)) | (go_at_call 109;go_must (refine(HO.out w2 hB2).mono ?_;rintro e w3 ⟨hb3,rfl⟩;have hy3:=hy2.kept hb3)) | (simp only[jH];refine wpList_store_row rfl 27 _ _ rfl (w.heap.size+1) _ rfl rfl _ _ hy3 (bQ _) rfl (aG.all _) ?_))
 have hfin:=hy3.setRow Vz.cells
 refine bodyPost_ret (dR rfl _ _ (w.heap.size+1) 27 _ (.int .i64 7) rfl rfl hfin Tryz.underlying27 rfl (bQ _)) rfl ?_
 exact⟨below_setRow (hB2.trans (hb3.mono hB2.size)) (by omega) _,rfl⟩
end
end Go.Proofs.YtengfapcaaacaaaGreatDoor
