/- The texts of E38, in few letters (mini.py). -/
import Derived.Test.YtengfapcaaacaaaGreatDoorF37
import Derived.Test.YtengfapcaaacaaaGreatDoorF33
set_option linter.unusedVariables false
set_option linter.unusedSimpArgs false
set_option maxRecDepth 20000
set_option maxHeartbeats 12800000
namespace Go.Proofs.YtengfapcaaacaaaGreatDoor
section
open Go.RowKit
def apK(w:World)(e:Ending)(w':World):Prop:=∃ b,e=.returned (.bool b)∧Below w.heap.size w w'
theorem alM(VA VB:aA)(A B:aQ)(w:World)(hA:aZ w VA A)(hB:aZ w VB B)(nA:∀ x∈A.names,x.length≤9223372036854775807)(nB:∀ x∈B.names,x.length≤9223372036854775807)(oA:∀ b,VA.of b<256)(oB:∀ b,VB.of b<256) :
  Calls Tryz.prog 10 #[.agg VA.cells,.agg VB.cells] w (apK w):=by
 have xA:=(Box.new w VA.cells 27).alloc (.cells VB.cells 27)
 have xB:=Box.new' (World.size_alloc w (.cells VA.cells 27)).symm VB.cells 27
 have hb0:=(aj w (.cells VA.cells 27)).alloc (aj w (.cells VA.cells 27)).size (.cells VB.cells 27)
 have kC:=ah (fun(u:World) (hu:Below w.heap.size w u)=>nY VA A u (hA.kept hu) oA nA)
 have kE:=ah (fun(u:World) (hu:Below w.heap.size w u)=>nY VB B u (hB.kept hu) oB nB)
 have cA:VA.ln≤9223372036854775807:=by obtain⟨_,_,_,h1,h2,_⟩:=hA.2.2.1.bU;omega
 have cB:VB.ln≤9223372036854775807:=by obtain⟨_,_,_,h1,h2,_⟩:=hB.2.2.1.bU;omega
 clear hA hB nA nB oA oB
 generalize dM A=rA at *
 generalize dM B=rB at *
 obtain⟨qa,ha⟩:∃ q,decide (VA.ln≤30)=q:=⟨_,rfl⟩
 obtain⟨qb,hb⟩:∃ q,decide (VB.ln≤30)=q:=⟨_,rfl⟩
 have ha':decide ((VA.ln:Int)≤30)=qa:=by rw[←ha,decide_eq_decide];omega
 have hb':decide ((VB.ln:Int)≤30)=qb:=by rw[←hb,decide_eq_decide];omega
 have key:∀ u:World,Below w.heap.size w u→(Box u w.heap.size VA.cells 27∧Box u (w.heap.size+1) VB.cells 27)→True:=fun _ _ _=>trivial
 clear key
 cases rA
 rotate_left
 cases qa
 rotate_left
 cases rB
 rotate_left
 cases qb
 rotate_left 2
 cases rB
 rotate_left
 cases qb
 all_goals
  go_enter Tryz.func10,Tryz.ntmps10
  go_wp2_with (first | (refine ak (by rfl) 27 _ rfl w.heap.size rfl _ _ _ _ xA Tryz.underlying27 rfl (ay _) ?_))
  refine(kC.out _ hb0).mono ?_
  rintro e w2 ⟨rfl,hb2⟩
  have mQ:=xA.kept hb2
  have jc:=xB.kept hb2
  have hB2:=hb0.trans (hb2.mono hb0.size)
  obtain⟨_,_,y2,_⟩:=mQ.ig
  have l2:=mQ.lt
  clear xA xB hb2
  go_wp2_with (first | (refine ak (by rfl) 27 _ rfl (w.heap.size+1) rfl _ _ _ _ jc Tryz.underlying27 rfl (ay _) ?_) | (go_at_call 25;go_must (refine(kE.out _ hB2).mono ?_;rintro e w3 ⟨rfl,hb3⟩;have lH:=jc.kept hb3;have hB2:=hB2.trans (hb3.mono hB2.size);obtain⟨_,_,y3,_⟩:=lH.ig;have l3:=lH.lt)))
  go_ret
  exact⟨_,rfl,hB2⟩
end
section
open Go.RowKit
theorem PV(V:aA)(D:aQ)(w:World)(h:aZ w V D)(hw:gQ D)(s c:Nat)(hs:s<D.label.length)(hc:c<256):Calls Tryz.prog 77 #[.agg V.cells,.int .i64 s,.int .u8 c] w (bF w (.int .i64 (stepD D s (D.of c):Nat))):=by
 obtain⟨n,wd,lb,lo,nb,no,rb,ro,rc,hm⟩:=machC h hw
 rw[hm.nl] at hs
 have hbx:=Box.new w V.cells 27
 have hB0:=aj w (.cells V.cells 27)
 have hd:=hm.of c hc
 have hcap:=hm.cap s hs
 have hnc:=hm.nc
 have hlc:=hm.lc
 have x2:=hbx.ig.2.2.1
 rw[hm.la,hm.ln] at x2
 have HF:Hid (∀ v,Later (w.alloc (.cells V.cells 27)).drew v→v.cell? ⟨w.heap.size,257,none⟩=some (.slice (some ⟨nb,no,none⟩) n V.nc)∧v.cell? ⟨w.heap.size,c,none⟩=some (.int .u8 (D.of c:Nat))∧v.cell? ⟨nb,no+s,none⟩=some (.slice (some ⟨rb s,ro s,none⟩) wd (rc s))∧v.cell? ⟨rb s,ro s+D.of c,none⟩=some (.int .i64 (stepD D s (D.of c):Nat))∧Below w.heap.size w v):=ah fun v hl=>by
  have h1:=((Below.refl _ (w.alloc (.cells V.cells 27))).drew).trans (Below.mono hl (Nat.le_refl _))
  have h2:=hB0.trans (h1.mono hB0.size)
  have hx:=hbx.kept h1
  refine⟨?_,?_,hm.row s hs v h2,hm.OZ s hs _ hd v h2,h2⟩
  ·have:=hx.ig.2.1;rwa[hm.na,hm.nn] at this
  ·rw[hx.cell,V.qV c hc,h.1]
 have s0:(0:Int)≤(s:Int):=by omega
 have s1:(s:Int)<(n:Int):=by omega
 have s2:decide (n≤s)=false:=by simp;omega
 have c0:(c:Int)<256:=by omega
 have hbl:=hbx.lt
 clear h hw hm hbx hB0
 generalize stepD D s (D.of c)=z at *
 generalize D.of c=d at *
 have d0:(d:Int)<(wd:Int):=by omega
 go_enter Tryz.func77,Tryz.ntmps77
 go_wp2_with fail
 refine aO (R:=Later) 12 (by kernel_rfl) ?_
 refine pl [0,1,2,3,4,5,6,7,8,9,10,11] ?_
 repeat
  refine dR ?_ rfl (fun w1 hl=>?_) ?_
  rotate_left
  ·obtain⟨q1,q2,q3,q4,_⟩:=HF.out w1 hl;have t0:=World.block_lt_of_cell? _ _ q1;have t1:=World.block_lt_of_cell? _ _ q3;have t2:=World.block_lt_of_cell? _ _ q4;go_simp;try with_reducible rfl
  simp only[eA,eB,eC,Act.put,eD,eE,eF]
 refine bV ?_
 refine aV (by kernel_rfl) (fun w1 hl=>?_) _
 have hE:=(HF.out w1 hl).2.2.2.2
 clear HF hl
 go_wp2
 go_ret
 exact⟨rfl,hE⟩
theorem Gz(V:aA)(D:aQ)(w:World)(h:aZ w V D)(hw:gQ D)(s:Nat)(hs:s<D.label.length):Calls Tryz.prog 78 #[.agg V.cells,.int .i64 (labS D s)] w (bF w (sv (bZ D s))):=by
 obtain⟨e1,e2,e3⟩:=h.lens
 obtain⟨b4,o4,l4,c4,Il,a4,k4⟩:=h.2.2.2.1.bU
 obtain⟨g1,g2⟩:=hw.lab _ (List.getElem_mem hs)
 have hbx:=Box.new w V.cells 27
 have hB0:=aj w (.cells V.cells 27)
 obtain⟨_,_,x2,x3⟩:=hbx.ig
 have hlab:labS D s=D.label[s]:=gQ.D8 hs
 have hpos:0<labS D s→∃ t,bZ D s=t∧V.ma=some ⟨b4,o4,none⟩∧(w.alloc (.cells V.cells 27)).cell? ⟨b4,o4+((labS D s).toNat - 1),none⟩=some (sv t):=fun hp=>by
  have hi:(labS D s).toNat - 1<D.names.length:=by rw[hlab] at hp ⊢;omega
  refine⟨_,rfl,a4 _ hi,?_⟩
  rw[k4 _ hi _ hB0]
  unfold bZ
  rw[if_pos hp,List.getD_eq_getElem?_getD,List.getElem?_eq_getElem hi];rfl
 have hzero:¬ 0<labS D s→bZ D s=[]:=fun hp=>by unfold bZ;rw[if_neg hp]
 have hmn:(labS D s)≤(V.mn:Int):=by rw[hlab];omega
 have hge:0≤labS D s:=by rw[hlab];exact g1
 have hmb:V.mn≤9223372036854775807:=by omega
 generalize labS D s=x at *
 have HB:=ah hB0
 clear h hw hbx hB0 e1 e2 e3 l4 c4 Il a4 k4 g1 g2 hlab hs x2
 by_cases hx:0<x
 ·obtain⟨t,ht,hma,q2⟩:=hpos hx
  rw[ht]
  rw[hma] at x3
  obtain⟨y,hy⟩:∃ y:Nat,x.toNat - 1=y:=⟨_,rfl⟩
  rw[hy] at q2
  obtain rfl:x=(y:Int)+1:=by omega
  have e1:((y:Int)+1==0)=false:=by simp;omega
  have y0:(0:Int)≤(y:Int):=by omega
  have y1:(y:Int)<(V.mn:Int):=by omega
  have q2l:=World.block_lt_of_cell? _ _ q2
  clear hpos hzero ht hma hy hx
  go_enter Tryz.func78,Tryz.ntmps78
  go_wp2
  go_ret
  exact⟨rfl,HB.out⟩
 ·rw[hzero hx]
  obtain rfl:x=0:=by omega
  clear hpos hzero hx hmn
  go_enter Tryz.func78,Tryz.ntmps78
  go_wp2
  go_ret
  exact⟨rfl,HB.out⟩
theorem IY(VA VB:aA)(A B:aQ)(w:World)(hA:aZ w VA A)(hB:aZ w VB B)(wA:gQ A)(wB:gQ B)(x y:Nat)(h1:x<A.label.length)(h2:y<B.label.length) :
  Calls Tryz.prog 41 #[.agg VA.cells,.agg VB.cells,.agg #[.int .i64 (x:Nat),.int .i64 (y:Nat)]] w (bF w (.tuple #[sv (bZ A x),sv (bZ B y)])):=by
 have HA:=ah (fun(v:World) (hv:Below w.heap.size w v)=>Gz VA A v (hA.kept hv) wA x h1)
 have HB:=ah (fun(v:World) (hv:Below w.heap.size w v)=>Gz VB B v (hB.kept hv) wB y h2)
 obtain⟨nA,Xd,lbA,loA,Xe,Xf,Xg,Xh,rcA,mA⟩:=machC hA wA
 obtain⟨nB,Xi,lbB,loB,Xj,Xk,Xl,Xm,rcB,mB⟩:=machC hB wB
 rw[mA.nl] at h1
 rw[mB.nl] at h2
 have b0:=aj w (.cells VA.cells 27)
 have b1:=b0.alloc b0.size (.cells VB.cells 27)
 have b2:=b1.alloc b1.size (.cells #[.int .i64 (x:Nat),.int .i64 (y:Nat)] 79)
 have xA:=((Box.new w VA.cells 27).alloc (.cells VB.cells 27)).alloc (.cells #[.int .i64 (x:Nat),.int .i64 (y:Nat)] 79)
 have xB:=(Box.new' (World.size_alloc w (.cells VA.cells 27)).symm VB.cells 27).alloc (.cells #[.int .i64 (x:Nat),.int .i64 (y:Nat)] 79)
 have xP:Box (((w.alloc (.cells VA.cells 27)).alloc (.cells VB.cells 27)).alloc (.cells #[.int .i64 (x:Nat),.int .i64 (y:Nat)] 79)) (w.heap.size+1+1) #[.int .i64 (x:Nat),.int .i64 (y:Nat)] 79:=Box.new' (by rw[World.size_alloc,World.size_alloc]) _ _
 have HF:Hid (∀ v,Later (((w.alloc (.cells VA.cells 27)).alloc (.cells VB.cells 27)).alloc (.cells #[.int .i64 (x:Nat),.int .i64 (y:Nat)] 79)).drew v→(Box v w.heap.size VA.cells 27∧Box v (w.heap.size+1) VB.cells 27)∧v.cell? ⟨w.heap.size+1+1,0,none⟩=some (.int .i64 (x:Nat))∧v.cell? ⟨w.heap.size+1+1,1,none⟩=some (.int .i64 (y:Nat)) ∧
   v.cell? ⟨w.heap.size,258,none⟩=some (.slice (some ⟨lbA,loA,none⟩) nA VA.lc)∧v.cell? ⟨w.heap.size+1,258,none⟩=some (.slice (some ⟨lbB,loB,none⟩) nB VB.lc)∧v.cell? ⟨lbA,loA+x,none⟩=some (.int .i64 (labS A x))∧v.cell? ⟨lbB,loB+y,none⟩=some (.int .i64 (labS B y))∧Below w.heap.size w v):=ah fun v hl=>by
  have hv:=((Below.refl _ (((w.alloc (.cells VA.cells 27)).alloc (.cells VB.cells 27)).alloc (.cells #[.int .i64 (x:Nat),.int .i64 (y:Nat)] 79))).drew).trans (Below.mono hl (Nat.le_refl _))
  have hb:=b2.trans (hv.mono b2.size)
  have yA:=xA.kept hv
  have yB:=xB.kept hv
  have yP:=xP.kept hv
  refine⟨⟨yA,yB⟩,yP.cell 0,yP.cell 1,?_,?_,mA.lab x h1 v hb,mB.lab y h2 v hb,hb⟩
  ·have:=yA.ig.2.2.1;rwa[mA.la,mA.ln] at this
  ·have:=yB.ig.2.2.1;rwa[mB.la,mB.ln] at this
 have lA:=mA.lc;have lB:=mB.lc
 have x0:(0:Int)≤(x:Int):=by omega
 have x1:(x:Int)<(nA:Int):=by omega
 have y0:(0:Int)≤(y:Int):=by omega
 have y1:(y:Int)<(nB:Int):=by omega
 clear hA hB wA wB mA mB b0 b1 b2 xA xB xP
 generalize labS A x=ka at *
 generalize labS B y=kb at *
 generalize bZ A x=na at *
 generalize bZ B y=nb at *
 go_enter Tryz.func41,Tryz.ntmps41
 go_wp2_with fail
 refine aO (R:=Later) 18 (by kernel_rfl) ?_
 refine iE (t:=18) (i:=0) rfl (by kernel_rfl) (by kernel_rfl) (by kernel_rfl) (by kernel_rfl) (fun _ _ _ h=>h) (by rfl) (fun w1 hl=>cO 27 _ rfl _ rfl ((HF.out w1 hl).1.1) Tryz.underlying27 rfl (ay VA)) ?_
 simp only[eA,eB,Act.put,eD,eE,eF]
 refine pl [1,2,3,4,5,6] ?_
 repeat
  refine dR ?_ rfl (fun w1 hl=>?_) ?_
  rotate_left
  ·obtain⟨_,q1,q2,q3,q4,q5,q6,_⟩:=HF.out w1 hl;have t0:=World.block_lt_of_cell? _ _ q1;have t1:=World.block_lt_of_cell? _ _ q3;have t2:=World.block_lt_of_cell? _ _ q4;have t3:=World.block_lt_of_cell? _ _ q5;have t4:=World.block_lt_of_cell? _ _ q6;go_simp;try with_reducible rfl
  simp only[eA,eB,eC,Act.put,eD,eE,eF]
 refine bV ?_
 refine yg 7 ?_ ?_ ?_ rfl (fun w1=>?_) (fun w1 hl=>?_) ?_
 rotate_left 4
 ·exact HA.out _ (HF.out w1 hl).2.2.2.2.2.2.2
 rotate_left
 ·go_simp
 simp only[eA,eB,eC,Act.put,eD,eE,eF]
 refine iE (t:=18) (i:=8) rfl (by kernel_rfl) (by kernel_rfl) (by kernel_rfl) (by kernel_rfl) (fun _ _ _ h=>h) (by rfl) (fun w1 hl=>cO 27 _ rfl _ rfl ((HF.out w1 hl).1.2) Tryz.underlying27 rfl (ay VB)) ?_
 simp only[eA,eB,eC,Act.put,eD,eE,eF]
 refine pl [9,10,11,12,13,14] ?_
 repeat
  refine dR ?_ rfl (fun w1 hl=>?_) ?_
  rotate_left
  ·obtain⟨_,q1,q2,q3,q4,q5,q6,_⟩:=HF.out w1 hl;have t0:=World.block_lt_of_cell? _ _ q1;have t1:=World.block_lt_of_cell? _ _ q3;have t2:=World.block_lt_of_cell? _ _ q4;have t3:=World.block_lt_of_cell? _ _ q5;have t4:=World.block_lt_of_cell? _ _ q6;go_simp;try with_reducible rfl
  simp only[eA,eB,eC,Act.put,eD,eE,eF]
 refine bV ?_
 refine yg 15 ?_ ?_ ?_ rfl (fun w1=>?_) (fun w1 hl=>?_) ?_
 rotate_left 4
 ·exact HB.out _ (HF.out w1 hl).2.2.2.2.2.2.2
 rotate_left
 ·go_simp
 simp only[eA,eB,eC,Act.put,eD,eE,eF]
 refine pl [16,17] ?_
 repeat
  refine dR ?_ rfl (fun w1 hl=>?_) ?_
  rotate_left
  ·skip;go_simp;try with_reducible rfl
  simp only[eA,eB,eC,Act.put,eD,eE,eF]
 refine bV ?_
 refine aV (by kernel_rfl) (fun w1 hl=>?_) _
 have hE:=(HF.out w1 hl).2.2.2.2.2.2.2
 clear HF hl
 go_wp2
 go_ret2
 exact⟨rfl,hE⟩
end
section
open Go.RowKit
theorem ahw(f g:Nat→Nat)(w:World):Calls Tryz.prog 76 #[.agg (aG (aT (aH (iV f g))))] w (fV w 5 1 dY (eU f g)):=by
 have h1:=UH (fun b=>if b<256 then aT (aH (iV f g)) b else 0) (fun b=>by
  split
  ·rename_i h;exact J6 (gY (iV f g)).refl h
  ·decide) w
 have e1:aG (fun b=>if b<256 then aT (aH (iV f g)) b else 0)=aG (aT (aH (iV f g))):=bY fun i hi=>if_pos hi
 have e2:aC (aH (aY (fun b=>if b<256 then aT (aH (iV f g)) b else 0))) 256=eU f g:=by
  rw[←Un]
  refine nI 256 fun b c hb hc=>?_
  unfold aH aY
  simp only[if_pos hb,if_pos hc]
 rw[e1,e2] at h1
 exact h1
theorem AA.forms{w:World}{base:Nat}{l:List ((Nat×Nat)×Int×Nat)}{v1 v2 v3:Value}(h:AA w base l v1 v2 v3):∃ a1 c1 a2 c2 a3 c3,v1=.slice a1 l.length c1∧v2=.slice a2 l.length c2∧v3=.slice a3 l.length c3:=by
 obtain⟨a1,c1,e1⟩:=h.ps.form
 obtain⟨a2,c2,e2⟩:=h.fs.form
 obtain⟨a3,c3,e3⟩:=h.bs.form
 rw[List.length_map] at e1 e2 e3
 exact⟨a1,c1,a2,c2,a3,c3,e1,e2,e3⟩
def Ce(l:List ((Nat×Nat)×Int×Nat))(p:Nat×Nat)(j:Nat):Bool:=((l.take j).map (·.1)).contains p
theorem acs{l:List ((Nat×Nat)×Int×Nat)}{p:Nat×Nat}{j:Nat}(h:j<l.length):Ce l p (j+1)=(Ce l p j||((l[j]).1==p)):=by
 unfold Ce
 rw[List.take_succ_eq_append_getElem h,List.map_append,Bool.eq_iff_iff,Bool.or_eq_true,List.contains_iff_mem,List.contains_iff_mem,List.mem_append,beq_iff_eq]
 simp only[List.map_cons,List.map_nil,List.mem_singleton]
 exact or_congr Iff.rfl eq_comm
theorem acu{l:List ((Nat×Nat)×Int×Nat)}{p:Nat×Nat}{j:Nat}(h:Ce l p j=true):(l.map (·.1)).contains p=true:=by
 unfold Ce at h
 rw[List.contains_iff_mem] at h ⊢
 obtain⟨x,hx,rfl⟩:=List.mem_map.1 h
 exact List.mem_map.2 ⟨x,List.mem_of_mem_take hx,rfl⟩
theorem ae0(l:List ((Nat×Nat)×Int×Nat))(p:Nat×Nat):Ce l p l.length=(l.map (·.1)).contains p:=by unfold Ce;rw[List.take_length]
theorem alN(a b c d:Nat)(w:World):(Op.equalIn 10000 79 (.agg #[.int .i64 (a:Nat),.int .i64 (b:Nat)]) (.agg #[.int .i64 (c:Nat),.int .i64 (d:Nat)])).run Tryz.prog w=.ok ((a,b)==(c,d)) w:=by
 have hi:(Tryz.prog.info? 3).map (fun i=>i.size)=some 1:=by kernel_rfl
 obtain⟨i,hi1,hi2⟩:=Option.map_eq_some_iff.1 hi
 have:=mO (P:=Tryz.prog) 9998 (q:=.i64) Tryz.underlying79 Tryz.underlying3 hi1 (by kernel_rfl) [(a:Int),b] [(c:Int),d] rfl rfl w
 refine this.trans ?_
 congr 1
 rw[Bool.eq_iff_iff]
 simp
 omega
def ae1(w:World)(R:List ((Nat×Nat)×Int×Nat))(e:Ending)(w':World):Prop :=
 ∃ v1 v2 v3,e=.returned (.tuple #[v1,v2,v3])∧AA w' w.heap.size R v1 v2 v3∧Below w.heap.size w w'
theorem Zq:dI Tryz.prog 24 3 (.int .i64 0) 1 8:=⟨Tryz.underlying24,info_parts (by kernel_rfl),rfl,by decide⟩
theorem IZ(VA VB:aA)(A B:aQ)(w:World)(hA:aZ w VA A)(hB:aZ w VB B)(wA:gQ A)(wB:gQ B)(oA:∀ b,VA.of b<256)(oB:∀ b,VB.of b<256) :
  Calls Tryz.prog 40 #[.agg VA.cells,.agg VB.cells] w (ae1 w (fZ A B)):=by
 have HTA:=ah (fun(v:World) (hv:Below w.heap.size w v) (s c:Nat) (hs:s<A.label.length) (hc:c<256)=>PV VA A v (hA.kept hv) wA s c hs hc)
 have Tz:=ah (fun(v:World) (hv:Below w.heap.size w v) (s c:Nat) (hs:s<B.label.length) (hc:c<256)=>PV VB B v (hB.kept hv) wB s c hs hc)
 have b0:=aj w (.cells VA.cells 27)
 have b1:=b0.alloc b0.size (.cells VB.cells 27)
 have xA:=(Box.new w VA.cells 27).alloc (.cells VB.cells 27)
 have xB:=Box.new' (World.size_alloc w (.cells VA.cells 27)).symm VB.cells 27
 have Xa:=ah (fun v=>ac8 VA.of VB.of oA oB v)
 have Uo:=ah (fun v=>ahw VA.of VB.of v)
 have hle:=Dh A.of B.of
 have HAT:=ah (wJ.start wA wB)
 have F8:=ah (fun(f i:Nat) (l:List ((Nat×Nat)×Int×Nat)) (h:wJ A B f i l) (hi:i<l.length)=>h.next wA wB hi)
 have qC:=ah (fun(l:List ((Nat×Nat)×Int×Nat)) (i:Nat) (hi:i<l.length) (h:jw (fP A B) (eU A.of B.of) (Bo A B) l) (cs:List Nat) (hcs:∀ c∈cs,c∈eU A.of B.of)=>Jv wA wB hi h cs hcs)
 have hbig:A.label.length*B.label.length≤4294967296:=Nat.mul_le_mul wA.le wB.le
 rw[hA.1,hB.1] at Xa Uo
 have yR:=ah (And.intro hA.1 hB.1)
 have hz:=gZ
 clear hA hB wA wB oA oB
 obtain⟨L,hL⟩:∃ L,eU A.of B.of=L:=⟨_,rfl⟩
 rw[hL] at Uo hle
 have HL:=ah hL
 have KA:=ah hle
 clear hL hle
 go_enter Tryz.func40,Tryz.ntmps40
 go_wp2_with (first | (refine gK (by rfl) 22 _ rfl w.heap.size rfl xA Tryz.underlying22 rfl (aK _) ?_) | (refine gK (by rfl) 22 _ rfl (w.heap.size+1) rfl xB Tryz.underlying22 rfl (aK _) ?_))
 rw[yR.out.1,yR.out.2]
 refine(Xa.out _).mono ?_
 rintro e w3 ⟨rfl,hb3⟩
 have mV:=xA.kept hb3
 have lH:=xB.kept hb3
 have hB3:=b1.trans (hb3.mono b1.size)
 clear xA xB b0 b1 hb3
 go_wp2_with (first | (refine dW rfl 22 (.tmp 7) (.tmp 24) rfl _ _ rfl rfl rfl (aK _) (iF _ _) (eu _) ?_) | (refine wpList_load_row rfl 22 (.tmp 7) rfl _ rfl _ _ _ _ (Box.new _ _ _) Tryz.underlying22 rfl (aK _) ?_))
 have ae2:=hB3.alloc hB3.size (.cells (aG (aT (aH (iV A.of B.of)))) 22)
 refine(Uo.out _).mono ?_
 rintro e w4 ⟨la,lc,rfl,qF,hb4⟩
 have hB4:=ae2.trans (hb4.mono ae2.size)
 have tZ:=(mV.alloc (.cells (aG (aT (aH (iV A.of B.of)))) 22)).kept hb4
 have ug:=(lH.alloc (.cells (aG (aT (aH (iV A.of B.of)))) 22)).kept hb4
 obtain⟨_,lc1,lc2,lb,cur,hla,hlx⟩:=qF.open
 have hlow:∀ k (h:k<L.length),la=some ⟨lb,0,none⟩∧∀ u,Below w4.heap.size w4 u→u.cell? ⟨lb,k,none⟩=some (.int .u8 (L[k]:Nat)):=fun k h=>⟨hla k h,fun u hu=>by
  obtain⟨_,hb,_,hc⟩:=hlx (by omega)
  have:=hc k h 0 (by decide)
  rw[Nat.mul_one,Nat.add_zero] at this
  rw[(hb.kept hu).cell,this];rfl⟩
 have TU:=ah hlow
 have HXA:=ah (fun(u:World) (hu:Below w4.heap.size w4 u)=>(And.intro (tZ.kept hu) (ug.kept hu)))
 have HB4:=ah hB4
 have p1:=aj w4 (.cells #[.int .i64 0,.int .i64 0] 79)
 have p2:=p1.alloc p1.size (.cells #[.int .i64 (-1)] 3)
 have p3:=p2.alloc p2.size (.cells #[.int .u8 0] 5)
 have o1:Own (((w4.alloc (.cells #[.int .i64 0,.int .i64 0] 79)).alloc (.cells #[.int .i64 (-1)] 3)).alloc (.cells #[.int .u8 0] 5)) w4.heap.size 79 2 Eb (.slice (some ⟨w4.heap.size,0,none⟩) 1 1) [(0,0)]:=G7 uD (0,0) _ rfl _ (((Box.new w4 _ _).alloc _).alloc _) (Nat.le_refl _)
 have o2:Own (((w4.alloc (.cells #[.int .i64 0,.int .i64 0] 79)).alloc (.cells #[.int .i64 (-1)] 3)).alloc (.cells #[.int .u8 0] 5)) w4.heap.size 3 1 encI (.slice (some ⟨w4.heap.size+1,0,none⟩) 1 1) [-1]:=G7 kJ (-1) #[.int .i64 (-1)] rfl _ ((Box.new' (World.size_alloc _ _).symm _ _).alloc _) (by omega)
 have o3:Own (((w4.alloc (.cells #[.int .i64 0,.int .i64 0] 79)).alloc (.cells #[.int .i64 (-1)] 3)).alloc (.cells #[.int .u8 0] 5)) w4.heap.size 5 1 dY (.slice (some ⟨w4.heap.size+1+1,0,none⟩) 1 1) [0]:=G7 zA 0 #[.int .u8 0] rfl _ (Box.new' (by rw[World.size_alloc,World.size_alloc]) _ _) (by omega)
 have HST:Hid (AA (((w4.alloc (.cells #[.int .i64 0,.int .i64 0] 79)).alloc (.cells #[.int .i64 (-1)] 3)).alloc (.cells #[.int .u8 0] 5)) w4.heap.size yE (.slice (some ⟨w4.heap.size,0,none⟩) 1 1) (.slice (some ⟨w4.heap.size+1,0,none⟩) 1 1) (.slice (some ⟨w4.heap.size+1+1,0,none⟩) 1 1)∧Below w4.heap.size w4 (((w4.alloc (.cells #[.int .i64 0,.int .i64 0] 79)).alloc (.cells #[.int .i64 (-1)] 3)).alloc (.cells #[.int .u8 0] 5))):=ah ⟨⟨o1,o2,o3⟩,p3⟩
 obtain⟨len,hlen⟩:∃ len,L.length=len:=⟨_,rfl⟩
 have HLEN:=ah hlen
 rw[hlen] at lc1 ⊢
 clear hlen
 clear hlow hla hlx qF p1 p2 p3 o1 o2 o3 hB4 tZ ug hb4 ae2 hB3 mV lH Xa Uo
 obtain⟨N,hN⟩:∃ N,A.label.length*B.label.length=N:=⟨_,rfl⟩
 have HN:=ah hN
 rw[hN] at HAT hbig
 clear hN
 go_wp2_with fail
 go_loopw [10,11,12,13] (fun v10 v11 v12 v13 wr=>∃ (f i:Nat) (l:List ((Nat×Nat)×Int×Nat)),wJ A B f i l∧v13=.int .i64 i∧AA wr w4.heap.size l v10 v11 v12∧Below w4.heap.size w4 wr) (fun _ _ _ v13 _=>N+1 - (intOf v13).toNat)
 case atStart=>exact⟨_,0,yE,HAT.out,rfl,HST.out.1,HST.out.2⟩
 case round =>
  obtain⟨f,i,l,hQ,rfl,hP,hB⟩:=hrel
  have hlN:=hQ.len
  rw[HN.out] at hlN
  obtain⟨a1,c1,a2,c2,a3,c3,rfl,rfl,rfl⟩:=hP.forms
  by_cases hlt:i<l.length
  ·obtain⟨ln,hln⟩:∃ ln,l.length=ln:=⟨_,rfl⟩
   have HP0:=ah hP;have HQ:=ah hQ;have HB:=ah hB;have uh:=ah hlt
   have i2:decide (i<ln)=true:=by rw[←hln];simp[hlt]
   have hlt':i<ln:=by omega
   have oU:=ah hln
   rw[hln]
   rw[hln] at hlN
   obtain⟨x,y,hxy,hok⟩:∃ x y,(l[i]).1=(x,y)∧Bo A B (x,y):=⟨_,_,rfl,hQ.good.ok _ (List.getElem_mem hlt)⟩
   have iT:=ah hxy
   have h1:x<A.label.length:=hok.1
   have h2:y<B.label.length:=hok.2
   clear hP hQ hB hlt hln hxy hok
   go_wp2_with fail
   go_loopw [10,11,12,14] (fun v10 v11 v12 v14 wr=>∃ (k:Nat) (lk:List ((Nat×Nat)×Int×Nat)),k≤len∧v14=.int .i64 k∧lk=sG (fP A B) i (x,y) l (L.take k)∧AA wr w4.heap.size lk v10 v11 v12∧Below w4.heap.size w4 wr) (fun _ _ _ v14 _=>len - (intOf v14).toNat)
   case atStart=>exact⟨0,l,Nat.zero_le _,rfl,by rw[List.take_zero];rfl,by have:=HP0.out;rw[oU.out] at this;exact this,HB.out⟩
   case round =>
    obtain⟨k,lk,hk,rfl,hlk,hP,hB2⟩:=hrel
    obtain⟨a1',c1',a2',c2',a3',c3',rfl,rfl,rfl⟩:=hP.forms
    by_cases hkl:k<len
    ·have Ux:k<L.length:=by rw[HLEN.out];exact hkl
     obtain⟨rfl,hlx⟩:=TU.out k Ux
     have htk:L.take (k+1)=L.take k++[L[k]]:=List.take_succ_eq_append_getElem Ux
     have hcc:=KA.out _ (List.getElem_mem Ux)
     generalize L[k]=cc at *
     have hil:i<lk.length:=by
      have:=(mF (nx:=fP A B) i (x,y) (L.take k) l).length_le
      rw[←hlk] at this
      have:=uh.out
      omega
     have hli:(lk[i]).1=(x,y):=by
      obtain⟨_,e⟩:=pI (mF (nx:=fP A B) i (x,y) (L.take k) l) uh.out
      have e2:lk[i]=l[i]'uh.out:=by simp only[hlk];exact e
      rw[e2];exact iT.out
     have hgood:jw (fP A B) (eU A.of B.of) (Bo A B) lk:=by
      have h9:=qC.out l i uh.out HQ.out.good (L.take k) (fun c hc=>by rw[HL.out];exact List.mem_of_mem_take hc)
      have e9:(l[i]'uh.out).1=(x,y):=iT.out
      generalize (l[i]'uh.out).1=z at h9 e9
      subst e9
      rw[hlk];exact h9
     have aeQ:lk.length≤N:=by rw[←HN.out];exact hgood.len fun m hm hx=>wX m hm hx
     obtain⟨g,cg,hsl,hgc,ad7,hgl,hgx⟩:=hP.cells hil
     obtain⟨rfl,_,rfl⟩:=Value.slice.inj hsl
     have hgi:∀ u:World,u.heap[g]?=wr.heap[g]?→u.cell? ⟨g,i*2,none⟩=some (.int .i64 (x:Nat))∧u.cell? ⟨g,i*2+1,none⟩=some (.int .i64 (y:Nat)):=fun u hu=>by
      have:=hgx u hu i hil
      rwa[hli] at this
     obtain⟨m,hm⟩:∃ m,lk.length=m:=⟨_,rfl⟩
     rw[hm]
     rw[hm] at hil hgc aeQ
     obtain⟨sx,sy,hsx⟩:∃ sx sy,fP A B (x,y) cc=(sx,sy):=⟨_,_,rfl⟩
     have hst:stepD A x (A.of cc)=sx∧stepD B y (B.of cc)=sy:=by
      unfold fP at hsx
      exact Prod.mk.inj hsx
     have HTo:Hid (∀ v,Below w4.heap.size w4 v→Calls Tryz.prog 77 #[.agg VA.cells,.int .i64 x,.int .u8 cc] v (bF v (.int .i64 (sx:Nat)))∧Calls Tryz.prog 77 #[.agg VB.cells,.int .i64 y,.int .u8 cc] v (bF v (.int .i64 (sy:Nat)))):=ah fun v hv=>by
      have hb:=HB4.out.trans (hv.mono HB4.out.size)
      have e1:=HTA.out v hb x cc h1 hcc
      have e2:=Tz.out v hb y cc h2 hcc
      rw[hst.1] at e1
      rw[hst.2] at e2
      exact⟨e1,e2⟩
     have HF:Hid (∀ v,Later wr.drew v→(Box v w.heap.size VA.cells 27∧Box v (w.heap.size+1) VB.cells 27)∧v.cell? ⟨g,i*2,none⟩=some (.int .i64 (x:Nat))∧v.cell? ⟨g,i*2+1,none⟩=some (.int .i64 (y:Nat))∧v.cell? ⟨lb,k,none⟩=some (.int .u8 (cc:Nat))∧Below w4.heap.size w4 v∧Below wr.heap.size wr v):=ah fun v hl=>by
      have hv:=dl hl
      have hb:=hB2.trans (hv.mono hB2.size)
      obtain⟨q1,q2⟩:=hgi v (hv.block g hgl)
      exact⟨HXA.out v hb,q1,q2,hlx v hb,hb,hv⟩
     have Ii:=ah hlx;have HM:=ah hm;have Tn:=ah (And.intro hP (And.intro hlk (And.intro hgood hB2)));have Ut:=ah hsx;have AX:=ah htk;have LM:=ah hgx;have IE:=ah hgl
     clear hm hP hlk hgood hB2 hsx htk hst hgx hgi hlx hli hgl hsl
     have i0:(0:Int)≤(i:Int):=by omega
     have i1:(i:Int)<(m:Int):=by omega
     have k0:(0:Int)≤(k:Int):=by omega
     have k1:(k:Int)<(len:Int):=by omega
     have k2:decide (k<len)=true:=by simp[hkl]
     go_wp2_with fail
     refine aO (R:=Later) 24 (by kernel_rfl) ?_
     refine iE (t:=24) (i:=0) rfl (by kernel_rfl) (by kernel_rfl) (by kernel_rfl) (by kernel_rfl) (fun _ _ _ h=>h) (by rfl) (fun w1 hl=>cO 27 _ rfl _ rfl ((HF.out w1 hl).1.1) Tryz.underlying27 rfl (ay VA)) ?_
     simp only[eA,eB,Act.put,eD,eE,eF]
     refine pl [1,2,3,4,5,6,7,8,9] ?_
     repeat
      refine dR ?_ rfl (fun w1 hl=>?_) ?_
      rotate_left
      ·obtain⟨_,q1,q2,q3,_⟩:=HF.out w1 hl;have t0:=World.block_lt_of_cell? _ _ q1;have t1:=World.block_lt_of_cell? _ _ q3;go_simp;try with_reducible rfl
      simp only[eA,eB,eC,Act.put,eD,eE,eF]
     refine bV ?_
     refine yg 10 ?_ ?_ ?_ rfl (fun w1=>?_) (fun w1 hl=>?_) ?_
     rotate_left 4
     ·exact(HTo.out _ (HF.out w1 hl).2.2.2.2.1).1
     rotate_left
     ·go_simp
     simp only[eA,eB,eC,Act.put,eD,eE,eF]
     refine iE (t:=24) (i:=11) rfl (by kernel_rfl) (by kernel_rfl) (by kernel_rfl) (by kernel_rfl) (fun _ _ _ h=>h) (by rfl) (fun w1 hl=>cO 27 _ rfl _ rfl ((HF.out w1 hl).1.2) Tryz.underlying27 rfl (ay VB)) ?_
     simp only[eA,eB,eC,Act.put,eD,eE,eF]
     refine pl [12,13,14,15,16,17,18,19,20] ?_
     repeat
      refine dR ?_ rfl (fun w1 hl=>?_) ?_
      rotate_left
      ·obtain⟨_,q1,q2,q3,_⟩:=HF.out w1 hl;have t0:=World.block_lt_of_cell? _ _ q1;have t1:=World.block_lt_of_cell? _ _ q3;go_simp;try with_reducible rfl
      simp only[eA,eB,eC,Act.put,eD,eE,eF]
     refine bV ?_
     refine yg 21 ?_ ?_ ?_ rfl (fun w1=>?_) (fun w1 hl=>?_) ?_
     rotate_left 4
     ·exact(HTo.out _ (HF.out w1 hl).2.2.2.2.1).2
     rotate_left
     ·go_simp
     simp only[eA,eB,eC,Act.put,eD,eE,eF]
     refine jF 22 ?_ rfl (fun w1 hl=>?_) ?_
     rotate_left
     ·go_simp;try with_reducible rfl
     simp only[eA,eB,eC,Act.put,eD,eE,eF]
     refine bg (t:=24) (i:=23) (by kernel_rfl) rfl (fun w1 hl K hK=>?_)
     go_simp
     refine hK.out _ _ (fun _=>aj _ _) ?_
     clear hK K
     obtain⟨_,q1,q2,q3,ae3,ML⟩:=HF.out w1 hl
     have hQ2:=Box.new w1 #[.int .i64 0,.int .i64 0] 79
     have hbn:=aj w1 (.cells #[.int .i64 0,.int .i64 0] 79)
     have bI:=ML.trans (hbn.mono ML.size)
     have fF:=ae3.trans (hbn.mono ae3.size)
     have hwl:wr.heap.size≤w1.heap.size:=ML.size
     obtain⟨pb,hpb⟩:∃ pb,w1.heap.size=pb:=⟨_,rfl⟩
     rw[hpb] at hQ2 hwl ⊢
     clear q1 q2 q3 ae3 ML hbn hpb HF hl
     generalize (w1.alloc (.cells #[.int .i64 0,.int .i64 0] 79))=w5 at *
     refine bg (t:=24) (i:=24) (by kernel_rfl) rfl (fun w1 hl K hK=>?_)
     have AB:=hQ2.kept hl
     have iH:=bI.trans (hl.mono bI.size)
     have jZ:=fF.trans (hl.mono fF.size)
     have hQ4:Box ((w1.setCell ⟨pb,0,none⟩ (.int .i64 (sx:Nat))).setCell ⟨pb,1,none⟩ (.int .i64 (sy:Nat))) pb #[.int .i64 (sx:Nat),.int .i64 (sy:Nat)] 79:=(AB.set 0 _).set 1 _
     have r0:w1.cell? ⟨pb,0,none⟩=some (.int .i64 0):=AB.cell 0
     have r1:w1.cell? ⟨pb,1,none⟩=some (.int .i64 0):=AB.cell 1
     have f0:=AB.free 0
     have f1:=AB.free 1
     have lq:=AB.lt
     have dw:Below wr.heap.size wr ((w1.setCell ⟨pb,0,none⟩ (.int .i64 (sx:Nat))).setCell ⟨pb,1,none⟩ (.int .i64 (sy:Nat))):=(iH.setCell hwl _).setCell hwl _
     have hBa:Below w4.heap.size w4 ((w1.setCell ⟨pb,0,none⟩ (.int .i64 (sx:Nat))).setCell ⟨pb,1,none⟩ (.int .i64 (sy:Nat))):=by
      have hz:w4.heap.size≤pb:=by have:=Tn.out.2.2.2.size;omega
      exact(jZ.setCell hz _).setCell hz _
     go_simp
     refine hK.out _ _ (fun h=>absurd rfl h) ?_
     clear hK K
     clear hQ2 AB bI fF iH jZ r0 r1 f0 f1 lq hl
     generalize ((w1.setCell ⟨pb,0,none⟩ (.int .i64 (sx:Nat))).setCell ⟨pb,1,none⟩ (.int .i64 (sy:Nat)))=w6 at *
     refine aV (by kernel_rfl) (fun w1 hl=>?_) _
     have hQ:=hQ4.kept hl
     have hBw:=dw.trans (hl.mono dw.size)
     have hB4:=hBa.trans (hl.mono hBa.size)
     clear hQ4 dw hBa hl
     have PW:=ah (And.intro hQ (And.intro hBw hB4))
     have hsucc:=fun j (hj:j<lk.length)=>acs (p:=(sx,sy)) hj
     have Ba:=ah hsucc
     have HH0:Hid (Ce lk (sx,sy) 0=false):=ah rfl
     have hgj:∀ u:World,Below w1.heap.size w1 u→∀ j (h:j<lk.length),u.cell? ⟨g,j*2,none⟩=some (.int .i64 ((lk[j]).1.1:Nat))∧u.cell? ⟨g,j*2+1,none⟩=some (.int .i64 ((lk[j]).1.2:Nat)):=fun u hu=>LM.out u ((hu.block g (Nat.lt_of_lt_of_le IE.out hBw.size)).trans (hBw.block g IE.out))
     have HGJ:=ah hgj
     have NT:Hid (((lk.map (·.1)).contains (sx,sy)=true→lk=sG (fP A B) i (x,y) l (L.take (k+1)))∧((lk.map (·.1)).contains (sx,sy)=false→lk++[((sx,sy),(i:Int),cc)]=sG (fP A B) i (x,y) l (L.take (k+1)))):=ah (by
      rw[AX.out,OX,←Tn.out.2.1,Ut.out]
      obtain⟨e1,e2⟩:=MJ lk ((sx,sy),(i:Int),cc)
      exact⟨fun h=>(e1 (List.contains_iff_mem.1 h)).symm,fun h=>(e2 (fun e=>by rw[List.contains_iff_mem.2 e] at h;cases h)).symm⟩)
     have hP6:=(Tn.out.1.kept hBw)
     have HP6:=ah hP6
     clear hP6
     clear hQ hBw hB4 hsucc hgj
     generalize w1=w6' at *
     go_wp2_with fail
     go_loopw [16,17] (fun v16 v17 wr=>∃ (j:Nat),j≤m∧v17=.int .i64 j∧v16=.bool (Ce lk (sx,sy) j)∧Below w6'.heap.size w6' wr) (fun _ v17 _=>m - (intOf v17).toNat)
     case atStart=>exact⟨0,Nat.zero_le _,rfl,by rw[HH0.out],Below.refl _ _⟩
     case round =>
      obtain⟨j,hj,rfl,rfl,fF⟩:=hrel
      by_cases hjm:j<m
      ·have j2:decide ((j:Int)<(m:Int))=true:=by simp;omega
       have j3:decide (j<m)=true:=by simp[hjm]
       have hjl:j<lk.length:=by rw[HM.out];exact hjm
       cases hbt:Ce lk (sx,sy) j with
       | true =>
        have HBT:=ah (acu hbt)
        have vO:=ah fF
        clear hbt fF
        go_wp2
        go_roundw
        case rel=>exact⟨k+1,lk,hkl,by go_num,NT.out.1 HBT.out,by have:=HP6.out.kept vO.out;rw[HM.out] at this;exact this,PW.out.2.2.trans (vO.out.mono PW.out.2.2.size)⟩
        case measure=>simp[intOf];omega
       | false =>
        have hsu:=Ba.out j hjl
        rw[hbt,Bool.false_or] at hsu
        obtain⟨px,py,hpp⟩:∃ px py,(lk[j]).1=(px,py):=⟨_,_,rfl⟩
        have HF7:Hid (∀ v,Later wr.drew v→v.cell? ⟨g,j*2,none⟩=some (.int .i64 (px:Nat))∧v.cell? ⟨g,j*2+1,none⟩=some (.int .i64 (py:Nat))∧v.cell? ⟨pb,0,none⟩=some (.int .i64 (sx:Nat))∧v.cell? ⟨pb,1,none⟩=some (.int .i64 (sy:Nat))∧Below w6'.heap.size w6' v):=ah fun v hl=>by
         have hv:=fF.trans ((dl hl).mono fF.size)
         obtain⟨e1,e2⟩:=HGJ.out v hv j hjl
         rw[hpp] at e1 e2
         have hq:=PW.out.1.kept hv
         exact⟨e1,e2,hq.cell 0,hq.cell 1,hv⟩
        rw[hpp] at hsu
        have HSJ:=ah hsu
        have hq:=alN px py sx sy
        obtain⟨be,hbe⟩:∃ be,((px,py)==(sx,sy))=be:=⟨_,rfl⟩
        rw[hbe] at hq
        have HBE:=ah hbe
        clear hbe
        have j0:(0:Int)≤(j:Int):=by omega
        have j1:(j:Int)<(m:Int):=by omega
        clear hsu hpp hbt fF hjl
        go_wp2_with fail
        refine aO (R:=Later) 7 (by kernel_rfl) ?_
        refine pl [0,1,2,3,4,5,6] ?_
        repeat
         refine dR ?_ rfl (fun w1 hl=>?_) ?_
         rotate_left
         ·obtain⟨q1,q2,q3,q4,_⟩:=HF7.out w1 hl;have t0:=World.block_lt_of_cell? _ _ q1;have t1:=World.block_lt_of_cell? _ _ q3;go_simp;try with_reducible rfl
         simp only[eA,eB,eC,Act.put,eD,eE,eF]
        refine bV ?_
        refine aV (by kernel_rfl) (fun w1 hl=>?_) _
        have hBj:=(HF7.out w1 hl).2.2.2.2
        clear HF7 hl
        go_wp2_with fail
        go_roundw
        case rel=>exact⟨j+1,hjm,by go_num,by rw[HSJ.out,HBE.out],hBj⟩
        case measure=>simp[intOf];omega
      ·obtain rfl:j=m:=by omega
       have hall:=ae0 lk (sx,sy)
       rw[HM.out] at hall
       rw[hall]
       cases hct:(lk.map (·.1)).contains (sx,sy) with
       | true =>
        have HBT:=ah hct
        have vO:=ah fF
        clear hct hall fF
        go_wp2
        go_roundw
        case rel=>exact⟨k+1,lk,hkl,by go_num,NT.out.1 HBT.out,by have:=HP6.out.kept vO.out;rw[HM.out] at this;exact this,PW.out.2.2.trans (vO.out.mono PW.out.2.2.size)⟩
        case measure=>simp[intOf];omega
       | false =>
        have MN:=ah (NT.out.2 hct)
        have hPj:=HP6.out.kept fF
        rw[HM.out] at hPj
        have hq6:=PW.out.1.kept fF
        have r0:wr.cell? ⟨pb,0,none⟩=some (.int .i64 (sx:Nat)):=hq6.cell 0
        have r1:wr.cell? ⟨pb,1,none⟩=some (.int .i64 (sy:Nat)):=hq6.cell 1
        have lq:=hq6.lt
        have ae4:=PW.out.2.2.trans (fF.mono PW.out.2.2.size)
        obtain⟨xs1,hx1⟩:∃ xs,lk.map (·.1)=xs:=⟨_,rfl⟩
        obtain⟨xs2,hx2⟩:∃ xs,lk.map (·.2.1)=xs:=⟨_,rfl⟩
        obtain⟨xs3,hx3⟩:∃ xs,lk.map (·.2.2)=xs:=⟨_,rfl⟩
        have Ej:Hid (xs1.length=j∧xs2.length=j∧xs3.length=j):=ah ⟨by rw[←hx1,List.length_map,HM.out],by rw[←hx2,List.length_map,HM.out],by rw[←hx3,List.length_map,HM.out]⟩
        have HXS:=ah (And.intro hx1 (And.intro hx2 hx3))
        obtain⟨hps,hfs,hbs⟩:=hPj
        rw[hx1] at hps
        rw[hx2] at hfs
        rw[hx3] at hbs
        have hps:=hps.alloc (.cells #[.int .i64 (sx:Nat),.int .i64 (sy:Nat)] 79)
        have hfs:=hfs.alloc (.cells #[.int .i64 (sx:Nat),.int .i64 (sy:Nat)] 79)
        have hbs:=hbs.alloc (.cells #[.int .i64 (sx:Nat),.int .i64 (sy:Nat)] 79)
        have hBn:=ae4.alloc ae4.size (.cells #[.int .i64 (sx:Nat),.int .i64 (sy:Nat)] 79)
        have hcb:lb<w4.heap.size:=World.block_lt_of_cell? _ _ (Ii.out w4 (Below.refl _ _))
        clear hx1 hx2 hx3 hct hall hq6 fF ae4
        go_wp2_with (first | (at_builtin;refine dK rfl _ _ 74 rfl Wx uD rfl hps ⟨wr.heap.size,0,none⟩ 1 (sx,sy) rfl (bW wr [.int .i64 (sx:Nat),.int .i64 (sy:Nat)] _) (by rw[Ej.out.1];simp only[maxLen];omega) (by rw[Ej.out.1];omega) hBn.size ?_;intro a7 c7 w7 gJ dn;have akW:=hfs.cu hps dn (by decide);have akX:=hbs.cu hps dn (by decide);have iH:=below_grown hBn hps dn (Nat.le_refl _) hBn.size;rw[Ej.out.1] at gJ ⊢;have EM:=gJ.alloc (.cells #[.int .i64 (i:Nat)] 3);have UJ:=akW.alloc (.cells #[.int .i64 (i:Nat)] 3);have akY:=akX.alloc (.cells #[.int .i64 (i:Nat)] 3);have jZ:=iH.alloc iH.size (.cells #[.int .i64 (i:Nat)] 3);clear hps hfs hbs hBn dn akW akX iH gJ r0 r1 lq) | (at_builtin;refine dK rfl _ _ 24 rfl Zq kJ rfl UJ ⟨w7.heap.size,0,none⟩ 1 (i:Int) rfl (bW w7 [.int .i64 (i:Nat)] _) (by rw[Ej.out.2.1];simp only[maxLen];omega) (by rw[Ej.out.2.1];omega) jZ.size ?_;intro a9 c9 w9 yT wo;have akZ:=EM.cu UJ wo (by decide);have aey:=akY.cu UJ wo (by decide);have dw:=below_grown jZ UJ wo (Nat.le_refl _) jZ.size;rw[Ej.out.2.1] at yT ⊢;have q9:=Ii.out w9 dw;have ql9:=World.block_lt_of_cell? _ _ q9;have JJ:=yT.alloc (.cells #[.int .u8 (cc:Nat)] 5);have agy:=akZ.alloc (.cells #[.int .u8 (cc:Nat)] 5);have MQ:=aey.alloc (.cells #[.int .u8 (cc:Nat)] 5);have sN:=dw.alloc dw.size (.cells #[.int .u8 (cc:Nat)] 5);clear EM UJ akY jZ yT wo akZ aey dw) | (at_builtin;refine dK rfl _ _ 35 rfl Jj zA rfl MQ ⟨w9.heap.size,0,none⟩ 1 cc rfl (bW w9 [.int .u8 (cc:Nat)] _) (by rw[Ej.out.2.2];simp only[maxLen];omega) (by rw[Ej.out.2.2];omega) sN.size ?_;intro ab cb wb hob hgb;have ak0:=agy.cu MQ hgb (by decide);have ak1:=JJ.cu MQ hgb (by decide);have hBb:=below_grown sN MQ hgb (Nat.le_refl _) sN.size;rw[Ej.out.2.2] at hob ⊢;have NC:=ah (And.intro ak0 (And.intro ak1 (And.intro hob hBb)));clear MQ JJ agy sN hgb ak0 ak1 hob hBb q9 ql9))
        go_roundw
        case rel =>
         obtain⟨z1,z2,z3,z4⟩:=NC.out
         refine⟨k+1,_,hkl,by go_num,MN.out,⟨?_,?_,?_⟩,z4⟩
         ·rw[List.map_append,HXS.out.1];exact z1
         ·rw[List.map_append,HXS.out.2.1];exact z2
         ·rw[List.map_append,HXS.out.2.2];exact z3
        case measure=>simp[intOf];omega
    ·obtain rfl:k=len:=by omega
     have hal:L.take k=L:=List.take_of_length_le (by rw[HLEN.out];exact Nat.le_refl _)
     rw[hal,←HL.out] at hlk
     obtain⟨f',hQ'⟩:=F8.out f i l HQ.out uh.out
     have e9:(l[i]'uh.out).1=(x,y):=iT.out
     generalize (l[i]'uh.out).1=z at hQ' e9
     subst e9
     rw[←hlk] at hQ'
     have HQ':=ah hQ';have HPn:=ah hP;have Uy:=ah hB2
     clear hal hlk hQ' hP hB2
     go_wp2
     go_roundw
     case rel=>exact⟨f',i+1,lk,HQ'.out,by go_num,HPn.out,Uy.out⟩
     case measure=>simp[intOf];omega
  ·have hil:i=l.length:=by have:=hQ.le;omega
   have hR:=hQ.fin hil
   have i2:decide (i<l.length)=false:=by simp;omega
   have HR:=ah hR;have HPn:=ah hP;have Uy:=ah hB
   clear hR hP hB hQ hil
   go_wp2
   go_ret3
   refine⟨_,_,_,rfl,?_,HB4.out.trans (Uy.out.mono HB4.out.size)⟩
   have h:=HPn.out
   rw[←HR.out]
   exact⟨h.ps.mono HB4.out.size,h.fs.mono HB4.out.size,h.bs.mono HB4.out.size⟩
end
section
open Go.RowKit
theorem VK(VA VB:aA)(A B:aQ)(w:World)(hA:aZ w VA A)(hB:aZ w VB B)(nA:∀ x∈A.names,x.length≤9223372036854775807)(nB:∀ x∈B.names,x.length≤9223372036854775807)(oA:∀ b,VA.of b<256)(oB:∀ b,VB.of b<256) :
  Calls Tryz.prog 13 #[.agg VA.cells,.agg VB.cells] w (bF w (.tuple #[.bool (both A B&&EG A B),.int .i64 (if both A B=true then 0 else 6)])):=by
 have xA:=(Box.new w VA.cells 27).alloc (.cells VB.cells 27)
 have xB:=Box.new' (World.size_alloc w (.cells VA.cells 27)).symm VB.cells 27
 have hb0:=(aj w (.cells VA.cells 27)).alloc (aj w (.cells VA.cells 27)).size (.cells VB.cells 27)
 have kC:=ah (fun(u:World) (hu:Below w.heap.size w u)=>nY VA A u (hA.kept hu) oA nA)
 have kE:=ah (fun(u:World) (hu:Below w.heap.size w u)=>nY VB B u (hB.kept hu) oB nB)
 unfold both
 cases rA:dM A with
 | false =>
  rw[rA] at kC
  clear hA hB kE
  go_enter Tryz.func13,Tryz.ntmps13
  go_wp2_with (first | (refine ak (by rfl) 27 _ rfl w.heap.size rfl _ _ _ _ xA Tryz.underlying27 rfl (ay _) ?_))
  refine(kC.out _ hb0).mono ?_
  rintro e w2 ⟨rfl,hb2⟩
  go_wp2
  go_ret2
  exact⟨rfl,hb0.trans (hb2.mono hb0.size)⟩
 | true =>
  rw[rA] at kC
  cases rB:dM B with
  | false =>
   rw[rB] at kE
   clear hA hB
   go_enter Tryz.func13,Tryz.ntmps13
   go_wp2_with (first | (refine ak (by rfl) 27 _ rfl w.heap.size rfl _ _ _ _ xA Tryz.underlying27 rfl (ay _) ?_))
   refine(kC.out _ hb0).mono ?_
   rintro e w2 ⟨rfl,hb2⟩
   have jc:=xB.kept hb2
   have hB2:=hb0.trans (hb2.mono hb0.size)
   go_wp2_with (first | (refine ak (by rfl) 27 _ rfl (w.heap.size+1) rfl _ _ _ _ jc Tryz.underlying27 rfl (ay _) ?_))
   refine(kE.out _ hB2).mono ?_
   rintro e w3 ⟨rfl,hb3⟩
   go_wp2
   go_ret2
   exact⟨rfl,hB2.trans (hb3.mono hB2.size)⟩
  | true =>
   rw[rB] at kE
   have wA:=nN rA
   have wB:=nN rB
   have Io:=ah (fun(u:World) (hu:Below w.heap.size w u)=>IZ VA VB A B u (hA.kept hu) (hB.kept hu) wA wB oA oB)
   have oW:=ah (fun(u:World) (hu:Below w.heap.size w u) (x y:Nat) (h1:x<A.label.length) (h2:y<B.label.length)=>IY VA VB A B u (hA.kept hu) (hB.kept hu) wA wB x y h1 h2)
   have qC:=ah (pJ wA wB).1.ok
   have heq:EG A B=vN (fun p=>bZ A p.1 != bZ B p.2) (fZ A B):=rfl
   have hRl:(fZ A B).length≤4294967296:=Nat.le_trans ((pJ wA wB).1.len (N:=A.label.length*B.label.length) fun m hm hx=>wX m hm hx) (Nat.mul_le_mul wA.le wB.le)
   have h0:0<(fZ A B).length:=by obtain⟨h,_⟩:=BU A B;exact h
   rw[heq]
   generalize fZ A B=R at *
   clear hA hB wA wB nA nB heq rA rB
   go_enter Tryz.func13,Tryz.ntmps13
   go_wp2_with (first | (refine ak (by rfl) 27 _ rfl w.heap.size rfl _ _ _ _ xA Tryz.underlying27 rfl (ay _) ?_))
   refine(kC.out _ hb0).mono ?_
   rintro e w2 ⟨rfl,hb2⟩
   have mQ:=xA.kept hb2
   have jc:=xB.kept hb2
   have hB2:=hb0.trans (hb2.mono hb0.size)
   go_wp2_with (first | (refine ak (by rfl) 27 _ rfl (w.heap.size+1) rfl _ _ _ _ jc Tryz.underlying27 rfl (ay _) ?_))
   refine(kE.out _ hB2).mono ?_
   rintro e w3 ⟨rfl,hb3⟩
   have mV:=mQ.kept hb3
   have lH:=jc.kept hb3
   have hB3:=hB2.trans (hb3.mono hB2.size)
   clear xA xB mQ jc hB2 hb2 hb3
   go_wp2_with (first | (refine ak (by rfl) 27 _ rfl w.heap.size rfl _ _ _ _ mV Tryz.underlying27 rfl (ay _) ?_) | (refine ak (by rfl) 27 _ rfl (w.heap.size+1) rfl _ _ _ _ lH Tryz.underlying27 rfl (ay _) ?_))
   refine(Io.out _ hB3).mono ?_
   rintro e w4 ⟨v1,v2,v3,rfl,hP,hb4⟩
   have hB4:=hB3.trans (hb4.mono hB3.size)
   have tZ:=mV.kept hb4
   have ug:=lH.kept hb4
   obtain⟨g,c,rfl,hc1,hc2,hgl,hgx⟩:=hP.cells h0
   obtain⟨m,hm⟩:∃ m,R.length=m:=⟨_,rfl⟩
   have HM:=ah hm
   rw[hm] at hc1 hRl ⊢
   have LM:=ah hgx;have IE:=ah hgl;have HB4:=ah hB4;have HX:=ah (fun(u:World) (hu:Below w4.heap.size w4 u)=>And.intro (tZ.kept hu) (ug.kept hu))
   clear hm h0 hP hb4 hB4 hB3 mV lH tZ ug hgx hgl
   go_wp2_with fail
   go_loopw [9] (fun v9 wr=>∃ i:Nat,i≤m∧v9=.int .i64 i∧Below w4.heap.size w4 wr∧∀ j (hj:j<R.length),j<i→(bZ A (R[j]).1.1 != bZ B (R[j]).1.2)=false) (fun v9 _=>m - (intOf v9).toNat)
   case atStart=>exact⟨0,Nat.zero_le _,rfl,Below.refl _ _,fun j _ h=>absurd h (Nat.not_lt_zero _)⟩
   case round =>
    obtain⟨i,hi,rfl,hB,hall⟩:=hrel
    by_cases hlt:i<m
    ·have UK:i<R.length:=by rw[HM.out];exact hlt
     obtain⟨x,y,hxy,hok⟩:∃ x y,(R[i]).1=(x,y)∧Bo A B (x,y):=⟨_,_,rfl,qC.out _ (List.getElem_mem UK)⟩
     have hBw:Below w.heap.size w wr:=HB4.out.trans (hB.mono HB4.out.size)
     have HN:=ah (fun(v:World) (hv:Below w.heap.size w v)=>oW.out v hv x y hok.1 hok.2)
     have HF:Hid (∀ v,Later wr.drew v→(Box v w.heap.size VA.cells 27∧Box v (w.heap.size+1) VB.cells 27)∧v.cell? ⟨g,i*2,none⟩=some (.int .i64 (x:Nat))∧v.cell? ⟨g,i*2+1,none⟩=some (.int .i64 (y:Nat))∧Below w.heap.size w v∧Below w4.heap.size w4 v):=ah fun v hl=>by
      have hv:=hB.trans ((dl hl).mono hB.size)
      have:=LM.out v (hv.block g IE.out) i UK
      rw[hxy] at this
      exact⟨HX.out v hv,this.1,this.2,HB4.out.trans (hv.mono HB4.out.size),hv⟩
     have nZ:=ah hall
     obtain⟨na,hna⟩:∃ na,bZ A x=na:=⟨_,rfl⟩
     obtain⟨nb,hnb⟩:∃ nb,bZ B y=nb:=⟨_,rfl⟩
     rw[hna,hnb] at HN
     have iT:=ah (And.intro hxy (And.intro hna hnb))
     have i0:(0:Int)≤(i:Int):=by omega
     have i1:(i:Int)<(m:Int):=by omega
     clear hxy hok hB hBw hall hna hnb
     go_wp2_with fail
     refine aO (R:=Later) 12 (by kernel_rfl) ?_
     refine iE (t:=12) (i:=0) rfl (by kernel_rfl) (by kernel_rfl) (by kernel_rfl) (by kernel_rfl) (fun _ _ _ h=>h) (by rfl) (fun w1 hl=>cO 27 _ rfl _ rfl ((HF.out w1 hl).1.1) Tryz.underlying27 rfl (ay VA)) ?_
     simp only[eA,eB,Act.put,eD,eE,eF]
     refine iE (t:=12) (i:=1) rfl (by kernel_rfl) (by kernel_rfl) (by kernel_rfl) (by kernel_rfl) (fun _ _ _ h=>h) (by rfl) (fun w1 hl=>cO 27 _ rfl _ rfl ((HF.out w1 hl).1.2) Tryz.underlying27 rfl (ay VB)) ?_
     simp only[eA,eB,eC,Act.put,eD,eE,eF]
     refine pl [2,3,4,5] ?_
     repeat
      refine dR ?_ rfl (fun w1 hl=>?_) ?_
      rotate_left
      ·obtain⟨_,q1,q2,_⟩:=HF.out w1 hl;have t0:=World.block_lt_of_cell? _ _ q1;go_simp;try with_reducible rfl
      simp only[eA,eB,eC,Act.put,eD,eE,eF]
     refine bV ?_
     refine yg 6 ?_ ?_ ?_ rfl (fun w1=>?_) (fun w1 hl=>?_) ?_
     rotate_left 4
     ·exact HN.out _ (HF.out w1 hl).2.2.2.1
     rotate_left
     ·go_simp
     simp only[eA,eB,eC,Act.put,eD,eE,eF]
     refine pl [7,8,9,10,11] ?_
     repeat
      refine dR ?_ rfl (fun w1 hl=>?_) ?_
      rotate_left
      ·skip;go_simp;try with_reducible rfl
      simp only[eA,eB,eC,Act.put,eD,eE,eF]
     refine bV ?_
     refine aV (by kernel_rfl) (fun w1 hl=>?_) _
     have dw:=(HF.out w1 hl).2.2.2.2
     clear HF hl HN
     have mG:=ah dw
     clear dw
     by_cases he:na=nb
     ·have e3:(na==nb)=true:=by simp[he]
      have e4:(na != nb)=false:=by simp[he]
      have HE:=ah he
      clear he
      go_wp2
      go_roundw
      case rel =>
       refine⟨i+1,hlt,by go_num,mG.out,fun j hj hji=>?_⟩
       by_cases hj2:j=i
       ·subst hj2
        rw[iT.out.1,iT.out.2.1,iT.out.2.2,HE.out];simp
       ·exact nZ.out j hj (by omega)
      case measure=>simp[intOf];omega
     ·have e3:(na==nb)=false:=by simp[he]
      have e4:(na != nb)=true:=by simp[he]
      have HE:=ah he
      clear he
      go_wp2
      go_ret2
      refine⟨?_,HB4.out.trans (mG.out.mono HB4.out.size)⟩
      rw[Ea UK (by rw[iT.out.1,iT.out.2.1,iT.out.2.2];simpa using HE.out)]
      rfl
    ·obtain rfl:i=m:=by omega
     have nZ:=ah hall
     have mG:=ah hB
     clear hall hB
     go_wp2
     go_ret2
     refine⟨?_,HB4.out.trans (mG.out.mono HB4.out.size)⟩
     rw[F9 fun j hj=>nZ.out j hj (by rw[←HM.out];exact hj)]
     rfl
end
end Go.Proofs.YtengfapcaaacaaaGreatDoor
