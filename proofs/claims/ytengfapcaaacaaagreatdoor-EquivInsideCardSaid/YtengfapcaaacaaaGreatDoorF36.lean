/- The texts of E36, in few letters (mini.py). -/
import Derived.Test.YtengfapcaaacaaaGreatDoorF35
import Derived.Test.YtengfapcaaacaaaGreatDoorF33
set_option linter.unusedVariables false
set_option linter.unusedSimpArgs false
set_option maxRecDepth 20000
set_option maxHeartbeats 1600000
namespace Go.Proofs.YtengfapcaaacaaaGreatDoor
section
open Go.RowKit
theorem VJ(D:aQ)(s:Nat)(v w:List UInt8):fQ D s (v++w)=fQ D (fQ D s v) w:=by unfold fQ;rw[List.foldl_append]
end
section
open Go.RowKit
theorem IX(V:aA)(D:aQ)(n:Int)(w:World)(h:aZ w V D)(hof:∀ b,V.of b<256)(hl:∀ x∈D.names,x.length≤9223372036854775807) :
  Calls Tryz.prog 16 #[.agg V.cells,.int .i64 n] w (bF w (.bool (dM D&&decide ((V.ln:Int)≤n)))):=by
 have hRt:=fun w1 (hb:Below w.heap.size w w1)=>nY V D w1 (h.kept hb) hof hl
 have hbx:=Box.new w V.cells 27
 have hB0:=aj w (.cells V.cells 27)
 have hlb:V.ln≤9223372036854775807:=by obtain⟨_,_,_,c3,c3',_⟩:=h.2.2.1.bU;omega
 have HRt:=ah hRt
 clear h hof hl hRt
 generalize dM D=rr at *
 cases rr with
 | false =>
  go_enter Tryz.func16,Tryz.ntmps16
  go_wp2_with (first | (refine wpList_load_row rfl 27 (.tmp 2) rfl w.heap.size rfl _ _ _ _ hbx Tryz.underlying27 rfl (ay _) ?_) | (go_at_call 25;go_must (refine(HRt.out _ hB0).mono ?_;rintro e w2 ⟨rfl,hB2⟩;have hbx2:=hbx.kept hB2;obtain⟨x0,x1,x2,x3⟩:=hbx2.ig)))
  go_ret
  exact⟨rfl,hB0.trans (hB2.mono (by simp))⟩
 | true =>
  rw[Bool.true_and]
  go_enter Tryz.func16,Tryz.ntmps16
  go_wp2_with (first | (refine wpList_load_row rfl 27 (.tmp 2) rfl w.heap.size rfl _ _ _ _ hbx Tryz.underlying27 rfl (ay _) ?_) | (go_at_call 25;go_must (refine(HRt.out _ hB0).mono ?_;rintro e w2 ⟨rfl,hB2⟩;have hbx2:=hbx.kept hB2;obtain⟨x0,x1,x2,x3⟩:=hbx2.ig)))
  go_ret
  exact⟨rfl,hB0.trans (hB2.mono (by simp))⟩
end
section
open Go.RowKit
theorem XA{w u:World}{V:aA}{D:aQ}{n wd lb lo nb no:Nat}{rb ro rc:Nat→Nat}(hM:zo w V D n wd lb lo nb no rb ro rc)(hV:V.of=D.of)(hu:Below w.heap.size w u){b E s bn:Nat}(hx:Box u b V.cells E)(hs:s<n)(hb:bn<256) :
  u.cell? ⟨b,257,none⟩=some (.slice (some ⟨nb,no,none⟩) n V.nc)∧u.cell? ⟨b,bn,none⟩=some (.int .u8 (D.of bn:Nat))∧u.cell? ⟨nb,no+s,none⟩=some (.slice (some ⟨rb s,ro s,none⟩) wd (rc s))∧u.cell? ⟨rb s,ro s+D.of bn,none⟩=some (.int .i64 (stepD D s (D.of bn):Nat))∧u.cell? ⟨b,258,none⟩=some (.slice (some ⟨lb,lo,none⟩) n V.lc)∧u.cell? ⟨lb,lo+s,none⟩=some (.int .i64 (labS D s)):=by
 refine⟨?_,?_,hM.row s hs u hu,hM.OZ s hs _ (hM.of bn hb) u hu,?_,hM.lab s hs u hu⟩
 ·rw[hx.cell,V.pG,hM.na,hM.nn]
 ·rw[hx.cell,V.qV bn hb,hV]
 ·rw[hx.cell,V.iZ,hM.la,hM.ln]
theorem acn(D:aQ)(s:Nat)(v:List UInt8)(b:UInt8):fQ D s (v++[b])=EF D (fQ D s v) b:=by rw[VJ];rfl
theorem ahu(V:aA)(D:aQ)(t:List UInt8)(ta:Option Addr)(tn tc:Nat)(w:World)(h:aZ w V D)(hl:∀ x∈D.names,x.length≤9223372036854775807)(hr:dM D=true)(hT:au w (.slice ta tn tc) 1 gI t) :
  Calls Tryz.prog 83 #[.agg V.cells,.slice ta tn tc] w (bF w (.int .i64 (fQ D 0 t:Nat))):=by
 have hw:=nN hr
 obtain⟨n,wd,lb,lo,nb,no,rb,ro,rc,hM⟩:=machC h hw
 have hbx:=Box.new w V.cells 27
 have hB0:=aj w (.cells V.cells 27)
 obtain⟨tb,to_,htn,htc,ate,hta,htx⟩:=au.bU (f:=fun x:UInt8=>Value.int .u8 (x.toNat:Nat)) hT
 subst htn
 have hn1:=hM.Ll
 have WS:=ah (fun u hu=>hr▸qW V D u (h.kept hu) hl)
 have HM:=ah hM;have HTA:=ah hta;have HTX:=ah htx;have HV:=ah h.1
 obtain⟨m,hm⟩:∃ m,t.length=m:=⟨_,rfl⟩
 have PE:=ah hm
 rw[hm] at htc ⊢
 obtain⟨R,hR⟩:∃ R,fQ D 0 t=R:=⟨_,rfl⟩
 rw[hR]
 have HR:=ah hR
 clear h hl hr hM hta htx hT hm hR hw
 go_enter Tryz.func83,Tryz.ntmps83
 go_wp2_with (first | (refine ak (by rfl) 27 _ rfl w.heap.size rfl _ _ _ _ hbx Tryz.underlying27 rfl (ay _) ?_) | (go_at_call 37;go_must (refine(WS.out _ hB0).mono ?_;rintro e w2 ⟨rfl,hb2⟩)))
 have hB2:=hB0.trans (hb2.mono hB0.size)
 have hx2:=hbx.kept hb2
 have HB2:=ah hB2;have SQ:=ah hx2
 clear hB2 hx2 hb2 hB0 hbx WS
 go_loopw [5,13] (fun v5 v13 wr=>∃ i:Nat,i≤m∧v13=.int .i64 i∧v5=.int .i64 (fQ D 0 (t.take i):Nat)∧Below w2.heap.size w2 wr) (fun _ v13 _=>m - (intOf v13).toNat)
 case atStart=>exact⟨0,Nat.zero_le _,rfl,rfl,Below.refl _ _⟩
 case round =>
  obtain⟨i,hi,rfl,rfl,hBr⟩:=hrel
  have hBw:Below w.heap.size w wr:=HB2.out.trans (hBr.mono HB2.out.size)
  have hx:=SQ.out.kept hBr
  by_cases hlt:i<m
  ·have hlt2:i<t.length:=by rw[PE.out];exact hlt
   obtain rfl:=HTA.out i hlt2
   have hs:=HM.out.run (t.take i) (s:=0) (by omega)
   have hsn:fQ D 0 (t.take (i+1))=EF D (fQ D 0 (t.take i)) t[i]:=by rw[List.take_succ_eq_append_getElem hlt2,acn]
   have c0:=HTX.out i hlt2 wr hBw
   generalize t[i]=b at *
   generalize fQ D 0 (t.take i)=s at *
   have hbl:=World.block_lt_of_cell? wr _ c0
   have hDr:Below wr.heap.size wr wr.drew:=(Below.refl _ _).drew
   have hbt:=b.toNat_lt
   obtain⟨hc1,hc2⟩:=HM.out.cap s hs
   obtain⟨atf,Aa⟩:=HM.out.nc
   have hob:=HM.out.of b.toNat hbt
   have hto:=HM.out.lt s hs _ hob
   rw[SS] at hsn
   have HF:Hid (∀ u,Later wr.drew u→(u.cell? ⟨w.heap.size,257,none⟩=some (.slice (some ⟨nb,no,none⟩) n V.nc)∧u.cell? ⟨w.heap.size,b.toNat,none⟩=some (.int .u8 (D.of b.toNat:Nat))∧u.cell? ⟨nb,no+s,none⟩=some (.slice (some ⟨rb s,ro s,none⟩) wd (rc s))∧u.cell? ⟨rb s,ro s+D.of b.toNat,none⟩=some (.int .i64 (stepD D s (D.of b.toNat):Nat)))∧Below wr.heap.size wr u):=ah fun u hu=>by
    have h1:Below wr.heap.size wr u:=hDr.trans (hu.mono hDr.size)
    have h2:Below w.heap.size w u:=hBw.trans (h1.mono hBw.size)
    obtain⟨a1,a2,a3,a4,_⟩:=XA HM.out HV.out h2 (hx.kept h1) hs hbt
    exact⟨⟨a1,a2,a3,a4⟩,h1⟩
   have HSN:=ah hsn;have HBR:=ah hBr
   generalize b.toNat=bn at *
   generalize D.of bn=ob at *
   generalize stepD D s ob=s2 at *
   generalize rb s=rbs at *
   generalize ro s=ros at *
   generalize rc s=rcs at *
   have hii:(i:Int)<(m:Int):=by omega
   have hi0:(0:Int)≤(i:Int):=by omega
   have hsi:(s:Int)<(n:Int):=by omega
   have hs0:(0:Int)≤(s:Int):=by omega
   have hoi:(ob:Int)<(wd:Int):=by omega
   have ho0:(0:Int)≤(ob:Int):=by omega
   have hbi:(bn:Int)<256:=by omega
   have hb0:(0:Int)≤(bn:Int):=by omega
   clear hsn hBr hBw hx hDr
   go_wp2_with fail
   refine aO (R:=Later) 12 (by kernel_rfl) ?_
   refine pl [0,1,2,3,4,5,6,7,8,9,10,11] ?_
   repeat
    refine dR ?_ rfl (fun w1 hl=>?_) ?_
    rotate_left
    ·obtain⟨⟨q1,q2,q3,q4⟩,hq⟩:=HF.out w1 hl;have l1:=World.block_lt_of_cell? w1 _ q1;have l2:=World.block_lt_of_cell? w1 _ q3;have l3:=World.block_lt_of_cell? w1 _ q4;go_simp;try with_reducible rfl
    simp only[eA,eB,eC,Act.put,eD,eE,eF]
   refine bV ?_
   refine aV (by kernel_rfl) (fun w1 hl=>?_) _
   have hq:=(HF.out w1 hl).2
   clear HF hl
   go_wp2
   exact⟨⟨i+1,hlt,by push_cast;rfl,by rw[HSN.out],HBR.out.trans (hq.mono HBR.out.size)⟩,by simp[intOf];omega⟩
  ·obtain rfl:i=m:=by omega
   rw[←PE.out,List.take_length,HR.out]
   go_wp2
   go_ret
   exact⟨rfl,hBw⟩
theorem aeY(V:aA)(D:aQ)(t:List UInt8)(ta:Option Addr)(tn tc:Nat)(w:World)(h:aZ w V D)(hl:∀ x∈D.names,x.length≤9223372036854775807)(hr:dM D=true)(hT:au w (.slice ta tn tc) 1 gI t) :
  Calls Tryz.prog 47 #[.agg V.cells,.slice ta tn tc] w (bF w (.int .i64 (labS D (fQ D 0 t)))):=by
 have hw:=nN hr
 obtain⟨n,wd,lb,lo,nb,no,rb,ro,rc,hM⟩:=machC h hw
 have hbx:=Box.new w V.cells 27
 have hB0:=aj w (.cells V.cells 27)
 have HRU:=ah (ahu V D t ta tn tc _ (h.kept hB0) hl hr (hT.kept hB0))
 have hs:=hM.run t (s:=0) hM.Ll.1
 obtain⟨atg,aeg⟩:=hM.lc
 have HM:=ah hM;have HV:=ah h.1
 clear h hl hr hM hT hw
 have hnn:decide (((fQ D 0 t:Nat):Int)<0)=false:=decide_eq_false (by omega)
 have hsi:((fQ D 0 t:Nat):Int)<(n:Int):=by omega
 have hs0:(0:Int)≤((fQ D 0 t:Nat):Int):=by omega
 have HAT:=ah (fun u (h2:Below w.heap.size w u) (hx:Box u w.heap.size V.cells 27)=>(XA HM.out HV.out h2 hx hs (bn:=0) (by decide)).2.2.2.2)
 generalize labS D (fQ D 0 t)=lab at *
 generalize fQ D 0 t=s at *
 go_enter Tryz.func47,Tryz.ntmps47
 go_wp2_with (first | (refine ak (by rfl) 27 _ rfl w.heap.size rfl _ _ _ _ hbx Tryz.underlying27 rfl (ay _) ?_) | (go_at_call 83;go_must (refine HRU.out.mono ?_;rintro e w2 ⟨rfl,hb2⟩;have hB2:=hB0.trans (hb2.mono hB0.size);obtain⟨x2,x3⟩:=HAT.out w2 hB2 (hbx.kept hb2);have l1:=World.block_lt_of_cell? w2 _ x2;have l2:=World.block_lt_of_cell? w2 _ x3)))
 go_ret
 exact⟨rfl,hB2⟩
end
section
open Go.RowKit
theorem aco(f g:Nat→Nat):eU g f=eU f g:=nI 256 fun b c _ _=>by rw[qL,qL,Bool.and_comm]
section
variable {A B:aQ}
end
end
section
open Go.RowKit
theorem acp(f g:Nat→Nat){b:Nat}(hb:b<256):∃ c,c∈eU f g∧f c=f b∧g c=g b:=by
 have h:=o8 (R:=aH (iV f g)) (gY (iV f g)).refl hb
 obtain⟨c,hc,hk⟩:=List.any_eq_true.1 h
 rw[qL,Bool.and_eq_true] at hk
 unfold aH aY at hk
 simp only[decide_eq_true_eq] at hk
 exact⟨c,hc,by omega,by omega⟩
theorem PS{A B:aQ}{p0:Nat×Nat}:∀ (w:List UInt8) (p:Nat×Nat),jW A B (eU A.of B.of) p0 p→jW A B (eU A.of B.of) p0 (fQ A p.1 w,fQ B p.2 w)
 | [],_,h=>h
 | b::w,p,h=>by
  obtain⟨c,hc,e1,e2⟩:=acp A.of B.of b.toNat_lt
  have h2:=h.on hc
  have e:fP A B p c=(EF A p.1 b,EF B p.2 b):=by
   unfold fP
   rw[e1,e2];rfl
  rw[e] at h2
  exact PS w _ h2
theorem acr(A B:aQ)(w:List UInt8):jW A B (eU A.of B.of) (0,0) (fQ A 0 w,fQ B 0 w):=PS w (0,0) (jW.refl _ _ _ _)
theorem Gy{A B:aQ}(hA:gQ A)(hB:gQ B){s:List UInt8}:yF A B s=true↔∀ q,jW A B (eU A.of B.of) (0,0) q→bZ A q.1=s→bZ B q.2=s:=by
 unfold yF vN
 rw[List.all_eq_true]
 constructor
 ·intro h q hq e
  obtain⟨x,hx,rfl⟩:=List.mem_map.1 ((vM hA hB q).2 hq)
  have:=h x hx
  simpa [e] using this
 ·intro h x hx
  have:=h x.1 ((vM hA hB x.1).1 (List.mem_map.2 ⟨x,hx,rfl⟩))
  by_cases e:bZ A x.1.1=s
  ·simp[e,this e]
  ·simp[e]
theorem aeZ{A B:aQ}(hA:gQ A)(hB:gQ B){s:List UInt8}(h:yF A B s=true)(w:List UInt8)(e:bZ A (fQ A 0 w)=s):bZ B (fQ B 0 w)=s:=(Gy hA hB).1 h _ (acr A B w) e
theorem PU{A B:aQ}{p q:Nat×Nat}(h:jW A B (eU A.of B.of) p q):jW B A (eU B.of A.of) (p.2,p.1) (q.2,q.1):=by
 obtain⟨w,h1,rfl⟩:=h
 refine⟨w,by rw[aco];exact h1,?_⟩
 clear h1
 induction w generalizing p with
 | nil=>rfl
 | cons c w ih=>exact ih (p:=fP A B p c)
theorem XB{D:aQ}(hD:gQ D){k:Nat}(hk:k<D.label.length)(h:bZ D k≠[]):bZ D k∈D.names:=by
 unfold bZ at h ⊢
 by_cases hp:0<labS D k
 ·rw[if_pos hp] at h ⊢
  have:=hD.lab _ (List.getElem_mem hk)
  rw[←gQ.D8 hk] at this
  have hi:(labS D k).toNat - 1<D.names.length:=by omega
  rw[List.getD_eq_getElem?_getD,List.getElem?_eq_getElem hi]
  exact List.getElem_mem hi
 ·rw[if_neg hp] at h;exact absurd rfl h
def allIn(A B:aQ)(l:List (List UInt8)):Bool:=l.all fun s=>yF A B s&&yF B A s
theorem ahv{A B:aQ}(hA:gQ A)(hB:gQ B)(hn:∀ s∈A.names++B.names,s≠[]):EG A B=allIn A B (A.names++B.names):=by
 rw[Bool.eq_iff_iff,Wq hA hB]
 unfold allIn
 rw[List.all_eq_true]
 constructor
 ·intro h s _
  rw[Bool.and_eq_true,Gy hA hB,Gy hB hA]
  refine⟨fun q hq e=>by rw[←h q hq];exact e,fun q hq e=>?_⟩
  have:=h (q.2,q.1) (PU hq)
  rw[this];exact e
 ·intro h q hq
  have hmem:∀ s∈A.names++B.names,(∀ q,jW A B (eU A.of B.of) (0,0) q→bZ A q.1=s→bZ B q.2=s)∧(∀ q,jW B A (eU B.of A.of) (0,0) q→bZ B q.1=s→bZ A q.2=s):=fun s hs=>by
   have:=h s hs
   rwa[Bool.and_eq_true,Gy hA hB,Gy hB hA] at this
  obtain⟨x,hx,rfl⟩:=List.mem_map.1 ((vM hA hB q).2 hq)
  obtain⟨h1,h2⟩:=(pJ hA hB).1.ok x hx
  by_cases ha:bZ A x.1.1=[]
  ·by_cases hb:bZ B x.1.2=[]
   ·rw[ha,hb]
   ·have:=(hmem _ (List.mem_append_right _ (XB hB h2 hb))).2 (x.1.2,x.1.1) (PU hq) rfl
    exact this
  ·exact((hmem _ (List.mem_append_left _ (XB hA h1 ha))).1 _ hq rfl).symm
end
section
open Go.RowKit
theorem UG(V:aA)(D:aQ)(t:List UInt8)(ta:Option Addr)(tn tc:Nat)(w:World)(h:aZ w V D)(hl:∀ x∈D.names,x.length≤9223372036854775807)(hr:dM D=true)(hT:au w (.slice ta tn tc) 1 gI t) :
  Calls Tryz.prog 17 #[.agg V.cells,.slice ta tn tc] w (bF w (sv (bZ D (fQ D 0 t)))):=by
 have hw:=nN hr
 obtain⟨e1,e2,e3⟩:=h.lens
 obtain⟨b4,o4,l4,c4,Il,a4,k4⟩:=h.2.2.2.1.bU
 have hs:=hw.fQ t (s:=0) hw.pos
 obtain⟨g1,g2⟩:=hw.lab _ (List.getElem_mem hs)
 have hbx:=Box.new w V.cells 27
 have hB0:=aj w (.cells V.cells 27)
 have HTL:=ah (aeY V D t ta tn tc _ (h.kept hB0) hl hr (hT.kept hB0))
 have hlab:labS D (fQ D 0 t)=D.label[fQ D 0 t]:=gQ.D8 hs
 have hpos:0<labS D (fQ D 0 t)→∃ x,bZ D (fQ D 0 t)=x∧V.ma=some ⟨b4,o4,none⟩∧∀ u,Below w.heap.size w u→u.cell? ⟨b4,o4+((labS D (fQ D 0 t)).toNat - 1),none⟩=some (sv x):=fun hp=>by
  have hi:(labS D (fQ D 0 t)).toNat - 1<D.names.length:=by rw[hlab] at hp ⊢;omega
  refine⟨_,rfl,a4 _ hi,fun u hu=>?_⟩
  rw[k4 _ hi u hu]
  unfold bZ
  rw[if_pos hp,List.getD_eq_getElem?_getD,List.getElem?_eq_getElem hi];rfl
 have hzero:¬ 0<labS D (fQ D 0 t)→bZ D (fQ D 0 t)=[]:=fun hp=>by unfold bZ;rw[if_neg hp]
 have hmn:(labS D (fQ D 0 t))≤(V.mn:Int):=by rw[hlab];omega
 have hmb:V.mn≤9223372036854775807:=by omega
 generalize labS D (fQ D 0 t)=x at *
 have HB0:=ah hB0;have Di:=ah hbx
 clear h hw hbx hB0 e1 e2 e3 l4 c4 Il a4 k4 g1 g2 hlab hs hT hl hr
 by_cases hx:0<x
 ·obtain⟨nm,ht,hma,q2⟩:=hpos hx
  rw[ht]
  obtain⟨y,hy⟩:∃ y:Nat,x.toNat - 1=y:=⟨_,rfl⟩
  rw[hy] at q2
  obtain rfl:x=(y:Int)+1:=by omega
  have e1:decide (0<(y:Int)+1)=true:=decide_eq_true (by omega)
  have y0:(0:Int)≤(y:Int):=by omega
  have y1:(y:Int)<(V.mn:Int):=by omega
  have HQ:=ah q2
  clear hpos hzero ht hy hx q2
  go_enter Tryz.func17,Tryz.ntmps17
  go_wp2_with (first | (refine ak (by rfl) 27 _ rfl w.heap.size rfl _ _ _ _ Di.out Tryz.underlying27 rfl (ay _) ?_))
  refine HTL.out.mono ?_
  rintro e w2 ⟨rfl,hb2⟩
  have hB2:=HB0.out.trans (hb2.mono HB0.out.size)
  have q2:=HQ.out w2 hB2
  have q2l:=World.block_lt_of_cell? _ _ q2
  obtain⟨_,_,_,x3⟩:=(Di.out.kept hb2).ig
  rw[hma] at x3
  have x3l:=(Di.out.kept hb2).lt
  clear hb2
  go_wp2
  go_ret
  exact⟨rfl,hB2⟩
 ·rw[hzero hx]
  have e1:decide (0<x)=false:=by simp;omega
  clear hpos hzero hx hmn
  go_enter Tryz.func17,Tryz.ntmps17
  go_wp2_with (first | (refine ak (by rfl) 27 _ rfl w.heap.size rfl _ _ _ _ Di.out Tryz.underlying27 rfl (ay _) ?_))
  refine HTL.out.mono ?_
  rintro e w2 ⟨rfl,hb2⟩
  have hB2:=HB0.out.trans (hb2.mono HB0.out.size)
  clear hb2
  go_wp2
  go_ret
  exact⟨rfl,hB2⟩
end
section
open Go.RowKit
theorem au.akR{w:World}{v:Value}{l:List Nat}(h:au w v 1 dY l)(hb:∀ x∈l,x<256):au w v 1 gI (l.map UInt8.ofNat):=by
 obtain⟨a,b,o,cap,rfl,hl,hc,ha,hx⟩:=h
 refine⟨a,b,o,cap,by rw[List.length_map],by rw[List.length_map];exact hl,hc,ha.imp id (fun⟨h1,h2⟩=>⟨by rw[h1];rfl,h2⟩),fun i hi j u hu=>?_⟩
 rw[List.length_map] at hi
 rw[List.getElem_map] at hu
 have h1:(UInt8.ofNat l[i]).toNat=l[i]:=UInt8.toNat_ofNat_of_lt' (hb _ (List.getElem_mem hi))
 exact hx i hi j u (by simpa [gI,dY,h1] using hu)
end
end Go.Proofs.YtengfapcaaacaaaGreatDoor
