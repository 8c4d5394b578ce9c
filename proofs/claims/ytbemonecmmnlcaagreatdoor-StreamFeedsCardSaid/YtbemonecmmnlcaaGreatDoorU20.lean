/- The texts of T20, in few letters (mini.py). -/
import Derived.Test.YtbemonecmmnlcaaGreatDoorU19
import Derived.Test.YtbemonecmmnlcaaGreatDoorU14
set_option linter.unusedVariables false
set_option linter.unusedSimpArgs false
set_option maxRecDepth 20000
set_option maxHeartbeats 3200000
namespace Go.Proofs.YtbemonecmmnlcaaGreatDoor
section
open Go.RowKit
theorem Ic{w u:World}{V:au}{D:ay}{n wd lb lo nb no:Nat}{rb ro rc:Nat→Nat}(hM:uO w V D n wd lb lo nb no rb ro rc)(hV:V.of=D.of)(hu:Below w.heap.size w u){b E s bn:Nat}(hx:Box u b V.cells E)(hs:s<n)(hb:bn<256) :
  u.cell? ⟨b,257,none⟩=some (.slice (some ⟨nb,no,none⟩) n V.nc)∧u.cell? ⟨b,bn,none⟩=some (.int .u8 (D.of bn:Nat))∧u.cell? ⟨nb,no+s,none⟩=some (.slice (some ⟨rb s,ro s,none⟩) wd (rc s))∧u.cell? ⟨rb s,ro s+D.of bn,none⟩=some (.int .i64 (stepD D s (D.of bn):Nat))∧u.cell? ⟨b,258,none⟩=some (.slice (some ⟨lb,lo,none⟩) n V.lc)∧u.cell? ⟨lb,lo+s,none⟩=some (.int .i64 (labS D s)):=by
 refine⟨?_,?_,hM.row s hs u hu,hM.SX s hs _ (hM.of bn hb) u hu,?_,hM.lab s hs u hu⟩
 ·rw[hx.cell,V.uS,hM.na,hM.nn]
 ·rw[hx.cell,V.Dp bn hb,hV]
 ·rw[hx.cell,V.lT,hM.la,hM.ln]
theorem SY(V:au)(D:ay)(w0 w:World)(hV:V.of=D.of)(n wd lb lo nb no:Nat)(rb ro rc:Nat→Nat)(hM:uO w0 V D n wd lb lo nb no rb ro rc)(hB:Below w0.heap.size w0 w)(s:Nat)(b:UInt8)(hs:s<n) :
  Calls Tryz.prog 109 #[.agg V.cells,.int .i64 s,.int .u8 (b.toNat:Nat)] w (bM w (.int .i64 (jO D s b:Nat))):=by
 have hbx:=Box.new w V.cells 27
 have hB0:=aj w (.cells V.cells 27)
 have hgo:jO D s b=stepD D s (D.of b.toNat):=JW D s b
 rw[hgo]
 have hbt:=b.toNat_lt
 obtain⟨hc1,hc2⟩:=hM.cap s hs
 obtain⟨ant,Ap⟩:=hM.nc
 obtain⟨aic,Oa⟩:=hM.lc
 have hob:=hM.of b.toNat hbt
 have hst:Below w.heap.size w (w.alloc (.cells V.cells 27)).drew:=hB0.trans ((Below.refl _ _).drew.mono hB0.size)
 have HF:Hid (∀ u,Later (w.alloc (.cells V.cells 27)).drew u→(u.cell? ⟨w.heap.size,257,none⟩=some (.slice (some ⟨nb,no,none⟩) n V.nc)∧u.cell? ⟨w.heap.size,b.toNat,none⟩=some (.int .u8 (D.of b.toNat:Nat))∧u.cell? ⟨nb,no+s,none⟩=some (.slice (some ⟨rb s,ro s,none⟩) wd (rc s))∧u.cell? ⟨rb s,ro s+D.of b.toNat,none⟩=some (.int .i64 (stepD D s (D.of b.toNat):Nat)))∧Below w.heap.size w u):=ah fun u hu=>by
  have h1:Below w.heap.size w u:=hst.trans (hu.mono hst.size)
  obtain⟨a1,a2,a3,a4,_⟩:=Ic hM hV (hB.trans (h1.mono hB.size)) ((hbx.kept (Below.refl _ _).drew).kept hu) hs hbt
  exact⟨⟨a1,a2,a3,a4⟩,h1⟩
 have x2:(w.alloc (.cells V.cells 27)).cell? ⟨w.heap.size,258,none⟩=some (.slice (some ⟨lb,lo,none⟩) n V.lc):=(Ic hM hV (hB.trans (hB0.mono hB.size)) hbx hs hbt).2.2.2.2.1
 have hbl:=hbx.lt
 clear hM hB hbx hB0 hst hV
 generalize b.toNat=bn at *
 generalize D.of bn=ob at *
 generalize stepD D s ob=s2 at *
 generalize rb s=rbs at *
 generalize ro s=ros at *
 generalize rc s=rcs at *
 have hsi:(s:Int)<(n:Int):=by omega
 have hs0:(0:Int)≤(s:Int):=by omega
 have hoi:(ob:Int)<(wd:Int):=by omega
 have ho0:(0:Int)≤(ob:Int):=by omega
 have hbi:(bn:Int)<256:=by omega
 have hb0:(0:Int)≤(bn:Int):=by omega
 have d1:decide ((s:Int)<0)=false:=decide_eq_false (by omega)
 have d2:decide ((n:Int)≤(s:Int))=false:=decide_eq_false (by omega)
 go_enter Tryz.func109,Tryz.ntmps109
 go_wp2
 refine aH (R:=Later) 12 (by kernel_rfl) ?_
 refine pl [0,1,2,3,4,5,6,7,8,9,10,11] ?_
 repeat
  refine gU ?_ rfl (fun w1 hl=>?_) ?_
  rotate_left
  ·obtain⟨⟨q1,q2,q3,q4⟩,hq⟩:=HF.out w1 hl;have l1:=World.block_lt_of_cell? w1 _ q1;have l2:=World.block_lt_of_cell? w1 _ q3;have l3:=World.block_lt_of_cell? w1 _ q4;go_simp;try with_reducible rfl
  simp only[eA,eB,eC,Act.put,eD,eE,eF]
 refine dI ?_
 refine aQ (by kernel_rfl) (fun w1 hl=>?_) _
 obtain⟨_,hq⟩:=HF.out w1 hl
 clear HF hl
 go_wp2
 go_ret
 exact⟨rfl,hq⟩
theorem BG(D:ay)(s:Nat)(v:List UInt8)(b:UInt8):bD D s (v++[b])=jO D (bD D s v) b:=by rw[Vo];rfl
theorem uO.run{w:World}{V:au}{D:ay}{n wd lb lo nb no:Nat}{rb ro rc:Nat→Nat}(h:uO w V D n wd lb lo nb no rb ro rc):∀ (v:List UInt8) {s:Nat},s<n→bD D s v<n
 | [],_,hs=>hs
 | b::v,_,hs=>h.run v (h.anr hs b)
theorem aaX(V:au)(D:ay)(w0 w:World)(hV:V.of=D.of)(n wd lb lo nb no:Nat)(rb ro rc:Nat→Nat)(hM:uO w0 V D n wd lb lo nb no rb ro rc)(hB:Below w0.heap.size w0 w)(t:List UInt8)(ta:Option Addr)(tn tc:Nat)(hT:ak w (.slice ta tn tc) 1 bf t) :
  Calls Tryz.prog 169 #[.agg V.cells,.slice ta tn tc] w (bM w (.int .i64 (bD D 0 t:Nat))):=by
 have hbx:=Box.new w V.cells 27
 have hB0:=aj w (.cells V.cells 27)
 obtain⟨tb,ES,htn,htc,adU,hta,htx⟩:=ak.bY (f:=fun x:UInt8=>Value.int .u8 (x.toNat:Nat)) hT
 subst htn
 have hn1:=hM.ER
 have HM:=ah hM;have yO:=ah hbx;have HB0:=ah hB0;have HTA:=ah hta;have HTX:=ah htx;have HB:=ah hB;have HV:=ah hV
 obtain⟨m,hm⟩:∃ m,t.length=m:=⟨_,rfl⟩
 have L9:=ah hm
 rw[hm] at htc ⊢
 obtain⟨R,hR⟩:∃ R,bD D 0 t=R:=⟨_,rfl⟩
 rw[hR]
 have HR:=ah hR
 clear hM hbx hB0 hta htx hT hB hV hm hR
 go_enter Tryz.func169,Tryz.ntmps169
 go_wp2
 go_loopw [5,6] (fun v5 v6 wr=>∃ i:Nat,i≤m∧v6=.int .i64 i∧v5=.int .i64 (bD D 0 (t.take i):Nat)∧Below (w.heap.size+1) (w.alloc (.cells V.cells 27)) wr) (fun _ v6 _=>m - (intOf v6).toNat)
 case atStart=>exact⟨0,Nat.zero_le _,rfl,rfl,Below.refl _ _⟩
 case round =>
  obtain⟨i,hi,rfl,rfl,hBr⟩:=hrel
  have adV:Below (w.alloc (.cells V.cells 27)).heap.size (w.alloc (.cells V.cells 27)) wr:=by rw[World.size_alloc];exact hBr
  have hBw:Below w.heap.size w wr:=HB0.out.trans (adV.mono HB0.out.size)
  have hx:=yO.out.kept adV
  have hsz:=hBw.size
  by_cases hlt:i<m
  ·have hlt2:i<t.length:=by rw[L9.out];exact hlt
   obtain rfl:=HTA.out i hlt2
   have hs:=HM.out.run (t.take i) (s:=0) (by omega)
   have hsn:bD D 0 (t.take (i+1))=jO D (bD D 0 (t.take i)) t[i]:=by rw[List.take_succ_eq_append_getElem hlt2,BG]
   have hc:=HTX.out i hlt2
   generalize t[i]=b at *
   generalize bD D 0 (t.take i)=s at *
   have hDr:Below wr.heap.size wr wr.drew:=(Below.refl _ _).drew
   have HF:Hid (∀ u,Later wr.drew u→Box u w.heap.size V.cells 27∧u.cell? ⟨tb,ES+i,none⟩=some (.int .u8 (b.toNat:Nat))∧Calls Tryz.prog 109 #[.agg V.cells,.int .i64 s,.int .u8 (b.toNat:Nat)] u (bM u (.int .i64 (jO D s b:Nat)))∧Below wr.heap.size wr u):=ah fun u hu=>by
    have h1:Below wr.heap.size wr u:=hDr.trans (hu.mono hDr.size)
    have h2:Below w.heap.size w u:=hBw.trans (h1.mono hBw.size)
    exact⟨hx.kept h1,hc u h2,SY V D w0 u HV.out n wd lb lo nb no rb ro rc HM.out (HB.out.trans (h2.mono HB.out.size)) s b hs,h1⟩
   have HSN:=ah hsn;have zq:=ah hBr
   have hii:(i:Int)<(m:Int):=by omega
   have hi0:(0:Int)≤(i:Int):=by omega
   clear hsn hBr adV hBw hx hDr hc
   go_wp2_with fail
   refine aH (R:=Later) 8 (by kernel_rfl) ?_
   refine kR (t:=8) (i:=0) rfl (by kernel_rfl) (by kernel_rfl) (by kernel_rfl) (by kernel_rfl) (fun _ _ _ h=>h) (by rfl) (fun w1 hl=>fM 27 _ rfl _ rfl ((HF.out w1 hl).1) Tryz.underlying27 rfl (aZ V)) ?_
   simp only[eA,eB,Act.put,eD,eE,eF]
   refine pl [1,2,3,4,5] ?_
   repeat
    refine gU ?_ rfl (fun w1 hl=>?_) ?_
    rotate_left
    ·obtain⟨_,q1,_,_⟩:=HF.out w1 hl;have l1:=World.block_lt_of_cell? w1 _ q1;go_simp;try with_reducible rfl
    simp only[eA,eB,eC,Act.put,eD,eE,eF]
   refine dI ?_
   refine CW 6 ?_ ?_ ?_ rfl (fun w1=>?_) (fun w1 hl=>?_) ?_
   rotate_left 4
   ·exact(HF.out w1 hl).2.2.1
   rotate_left
   ·go_simp
   simp only[eA,eB,eC,Act.put,eD,eE,eF]
   refine iZ 7 ?_ rfl (fun w1 hl=>?_) ?_
   rotate_left
   ·skip;go_simp;try with_reducible rfl
   simp only[eA,eB,eC,Act.put,eD,eE,eF]
   refine aQ (by kernel_rfl) (fun w1 hl=>?_) _
   have hq:=(HF.out w1 hl).2.2.2
   clear HF hl
   go_wp2
   exact⟨⟨i+1,hlt,by push_cast;rfl,by rw[HSN.out],zq.out.trans (hq.mono (by have:=zq.out.size;rw[World.size_alloc] at this;omega))⟩,by simp[intOf];omega⟩
  ·obtain rfl:i=m:=by omega
   rw[←L9.out,List.take_length,HR.out]
   go_wp2
   go_ret
   exact⟨rfl,hBw⟩
theorem Yw(V:au)(D:ay)(w0 w:World)(hV:V.of=D.of)(n wd lb lo nb no:Nat)(rb ro rc:Nat→Nat)(hM:uO w0 V D n wd lb lo nb no rb ro rc)(hB:Below w0.heap.size w0 w)(t:List UInt8)(ta:Option Addr)(tn tc:Nat)(hT:ak w (.slice ta tn tc) 1 bf t) :
  Calls Tryz.prog 128 #[.agg V.cells,.slice ta tn tc] w (bM w (.int .i64 (labS D (bD D 0 t)))):=by
 have hbx:=Box.new w V.cells 27
 have hB0:=aj w (.cells V.cells 27)
 have hst:Below w.heap.size w (w.alloc (.cells V.cells 27)).drew:=hB0.trans ((Below.refl _ _).drew.mono hB0.size)
 have hs:=hM.run t (s:=0) hM.ER.1
 obtain⟨aic,Oa⟩:=hM.lc
 have HF:Hid (∀ u,Later (w.alloc (.cells V.cells 27)).drew u→Box u w.heap.size V.cells 27∧u.cell? ⟨w.heap.size,258,none⟩=some (.slice (some ⟨lb,lo,none⟩) n V.lc)∧u.cell? ⟨lb,lo+bD D 0 t,none⟩=some (.int .i64 (labS D (bD D 0 t)))∧Calls Tryz.prog 169 #[.agg V.cells,.slice ta tn tc] u (bM u (.int .i64 (bD D 0 t:Nat)))∧Below w.heap.size w u):=ah fun u hu=>by
  have h1:Below w.heap.size w u:=hst.trans (hu.mono hst.size)
  have hx:=(hbx.kept (Below.refl _ _).drew).kept hu
  have h2:Below w0.heap.size w0 u:=hB.trans (h1.mono hB.size)
  obtain⟨_,_,_,_,a5,a6⟩:=Ic hM hV h2 hx hs (bn:=0) (by decide)
  exact⟨hx,a5,a6,aaX V D w0 u hV n wd lb lo nb no rb ro rc hM h2 t ta tn tc (hT.kept h1),h1⟩
 clear hM hB hT hbx hB0 hst hV
 generalize labS D (bD D 0 t)=lab at *
 generalize bD D 0 t=s at *
 have hsi:(s:Int)<(n:Int):=by omega
 have hs0:(0:Int)≤(s:Int):=by omega
 go_enter Tryz.func128,Tryz.ntmps128
 go_wp2_with fail
 refine aH (R:=Later) 8 (by kernel_rfl) ?_
 refine kR (t:=8) (i:=2) rfl (by kernel_rfl) (by kernel_rfl) (by kernel_rfl) (by kernel_rfl) (fun _ _ _ h=>h) (by rfl) (fun w1 hl=>fM 27 _ rfl _ rfl ((HF.out w1 hl).1) Tryz.underlying27 rfl (aZ V)) ?_
 simp only[eA,eB,eC,Act.put,eD,eE,eF]
 refine pl [0,3] ?_
 repeat
  refine gU ?_ rfl (fun w1 hl=>?_) ?_
  rotate_left
  ·skip;go_simp;try with_reducible rfl
  simp only[eA,eB,eC,Act.put,eD,eE,eF]
 refine dI ?_
 refine CW 4 ?_ ?_ ?_ rfl (fun w1=>?_) (fun w1 hl=>?_) ?_
 rotate_left 4
 ·exact(HF.out w1 hl).2.2.2.1
 rotate_left
 ·go_simp
 simp only[eA,eB,eC,Act.put,eD,eE,eF]
 refine pl [1,5,6,7] ?_
 repeat
  refine gU ?_ rfl (fun w1 hl=>?_) ?_
  rotate_left
  ·obtain⟨_,q1,q2,_⟩:=HF.out w1 hl;have l1:=World.block_lt_of_cell? w1 _ q1;have l2:=World.block_lt_of_cell? w1 _ q2;go_simp;try with_reducible rfl
  simp only[eA,eB,eC,Act.put,eD,eE,eF]
 refine dI ?_
 refine aQ (by kernel_rfl) (fun w1 hl=>?_) _
 have hq:=(HF.out w1 hl).2.2.2.2
 clear HF hl
 go_wp2
 go_ret
 exact⟨rfl,hq⟩
end
section
open Go.RowKit
theorem yY(l:List Nat):(l.map fun k:Nat=>(k:Int)).map (Value.int .i64)=l.flatMap aG:=by
 induction l with
 | nil=>rfl
 | cons x l ih=>rw[List.map_cons,List.map_cons,ih,List.flatMap_cons];rfl
theorem aa0(l:List Nat)(b0:Nat)(a:Option Addr)(n cap:Nat)(w:World)(h:Own w b0 3 1 aG (.slice a n cap) l)(hl:l.length≤1099511627776) :
  Calls Tryz.prog 80 #[.slice a n cap] w (gV w 3 1 aG l):=by
 have hs:=h.slice bQ
 obtain⟨a',cap',hv,hle,hm,hh⟩:=h
 obtain⟨rfl,rfl,rfl⟩:=Value.slice.inj hv
 rcases hh with⟨rfl,rfl⟩ | ⟨g,cur,rfl,hbg,hg,hcs,hx⟩
 ·obtain rfl:l=[]:=List.eq_nil_of_length_eq_zero (by omega)
  refine(Tryz.slices_Clone_int_nil 0 0 w).mono fun e w' ⟨he,hw⟩=>?_
  exact⟨none,0,he,Own.nil _ _ _ _ _,hw▸Below.refl _ _⟩
 ·have:=Tryz.slices_Clone_int g 0 l.length cap (l.map fun k:Nat=>(k:Int)) w (by simp) (by omega) (fun j hj=>by
   have hj2:j<l.length:=by simpa using hj
   have h2:=hx j hj2 0 (by decide)
   rw[hg.cell,show 0+j=j*1+0 by omega,h2]
   simp[List.getD,hj2,aG])
  refine this.mono fun e w' he=>?_
  obtain⟨v',rfl,hr,hv,hB⟩:=he
  rw[List.take_of_length_le (by simp),yY] at hr
  have ho:Own w' w.heap.size 3 1 aG v' l:=Own.ofRow hr bQ
  obtain⟨a',c',rfl⟩:=ho.form
  exact⟨a',c',rfl,ho,hB⟩
def Ie(b:Bool):List Value:=[.bool b]
theorem S9:fD Ie 1:=⟨fun _=>rfl,fun x u hu=>by simp[Ie] at hu;subst hu;rfl⟩
theorem Pq:eu Tryz.prog 119 4 (.bool false) 1 1:=⟨Tryz.underlying119,info_parts (by kernel_rfl),rfl,by decide⟩
def rO(n:Nat)(ws:List Nat):List Bool:=(List.range n).map fun s=>ws.contains s
theorem qE(n:Nat)(ws:List Nat):(rO n ws).length=n:=by unfold rO;simp
theorem Em(n:Nat)(ws:List Nat)(s:Nat)(h:s<(rO n ws).length):(rO n ws)[s]=ws.contains s:=by unfold rO;simp
theorem Tc(n:Nat):rO n []=List.replicate n false:=by
 unfold rO
 exact List.eq_replicate_iff.2 ⟨by simp,fun b hb=>by obtain⟨_,_,h⟩:=List.mem_map.1 hb;simpa using h.symm⟩
theorem JX(n:Nat)(ws:List Nat)(t:Nat):(rO n ws).set t true=rO n (ws++[t]):=by
 apply List.ext_getElem
 ·simp[rO]
 ·intro i h1 h2
  rw[List.getElem_set,Em,Em]
  by_cases e:t=i
  ·subst e;simp
  ·rw[if_neg e,Bool.eq_iff_iff]
   simp only[List.contains_iff_mem,List.mem_append,List.mem_cons,List.not_mem_nil,or_false]
   exact⟨.inl,fun h=>h.elim id fun h=>absurd h.symm e⟩
structure oN(base n0 n tb:Nat)(W0:World)(X:Nat→Prop)(tv:Value)(ss ws:List Nat)(wr:World):Prop where
 there:Own wr base 4 1 Ie (.slice (some ⟨tb,0,none⟩) n n) (rO n ss)
 waits:Own wr base 3 1 aG tv ws
 own:∀ b,X b↔b=tb∨tv.ownBlock=some b
 keep:∀ b,b<n0→wr.heap[b]?=W0.heap[b]?
 size:base≤wr.heap.size∧n0≤base
theorem oN.same{base n0 n tb:Nat}{W0:World}{X:Nat→Prop}{tv:Value}{ss ws:List Nat}{wr w2:World}(h:oN base n0 n tb W0 X tv ss ws wr)(hs:wr.heap.size≤w2.heap.size)(hk:∀ b,X b∨b<n0→w2.heap[b]?=wr.heap[b]?):oN base n0 n tb W0 X tv ss ws w2 :=
 ⟨h.there.same fun g hg=>hk g (.inl ((h.own g).2 (.inl (by cases hg;rfl)))),h.waits.same fun g hg=>hk g (.inl ((h.own g).2 (.inr hg))),h.own,fun b hb=>(hk b (.inr hb)).trans (h.keep b hb),⟨Nat.le_trans h.size.1 hs,h.size.2⟩⟩
theorem oN.blk{base n0 n tb:Nat}{W0:World}{X:Nat→Prop}{tv:Value}{ss ws:List Nat}{wr:World}(h:oN base n0 n tb W0 X tv ss ws wr){b:Nat}(hx:X b):base≤b∧b<wr.heap.size:=by
 rcases (h.own b).1 hx with rfl | e
 ·exact h.there.blk rfl
 ·exact h.waits.blk e
theorem oN.kept{base n0 n tb:Nat}{W0:World}{X:Nat→Prop}{tv:Value}{ss ws:List Nat}{wr w2:World}(h:oN base n0 n tb W0 X tv ss ws wr)(hb:Below wr.heap.size wr w2):oN base n0 n tb W0 X tv ss ws w2 :=
 h.same hb.size fun b hx=>hb.block b (by
  rcases hx with hx | hx
  ·exact(h.blk hx).2
  ·have:=h.size;omega)
theorem oN.aif{base n0 n tb:Nat}{W0:World}{X:Nat→Prop}{tv:Value}{ss ws:List Nat}{wr:World}(h:oN base n0 n tb W0 X tv ss ws wr):tv.ownBlock≠some tb:=fun e=>by
 obtain⟨_,c1,b1⟩:=h.waits.block _ e
 obtain⟨_,c2,b2⟩:=h.there.block tb rfl
 exact absurd (b1.kK b2) (by decide)
theorem oN.mark{base n0 n tb:Nat}{W0:World}{X:Nat→Prop}{tv:Value}{ss ws:List Nat}{wr:World}(h:oN base n0 n tb W0 X tv ss ws wr){t:Nat}(ht:t<n) :
  oN base n0 n tb W0 X tv (ss++[t]) ws (wr.setCell ⟨tb,t,none⟩ (.bool true))∧Qv X X wr (wr.setCell ⟨tb,t,none⟩ (.bool true)) (some tb):=by
 have hl:=qE n ss
 have h1:=h.there.store1 (i:=t) (j:=0) (by rw[hl];exact ht) (by decide) true (.bool true) (fun k hk=>by
  have hk0:k=0:=Nat.lt_one_iff.1 hk
  subst hk0
  rfl)
 rw[JX,show t*1+0=t by omega] at h1
 have hne:=h.aif
 have hlt:=h.there.blk (g:=tb) rfl
 have hsz:=h.size
 have ho:∀ b,b≠tb→(wr.setCell ⟨tb,t,none⟩ (.bool true)).heap[b]?=wr.heap[b]?:=fun b hb=>heap_setCell_other _ _ _ _ hb
 refine⟨⟨h1,h.waits.same fun g hg=>ho g fun e=>hne (e▸hg),h.own,fun b hb=>(ho b (by omega)).trans (h.keep b hb),by rw[World.size_setCell];exact hsz⟩,⟨⟨rfl,rfl,rfl,Nat.le_of_eq (World.size_setCell _ _ _).symm,fun k _ hk=>ho k fun e=>hk (by rw[e])⟩,fun r e=>?_,fun b hb=>.inl hb⟩⟩
 cases e
 exact(h.own tb).2 (.inl rfl)
theorem oN.wait{base n0 n tb:Nat}{W0:World}{X:Nat→Prop}{tv tv':Value}{ss ws ws':List Nat}{wr w1 w2:World}(h:oN base n0 n tb W0 X tv ss ws wr)(hb:Below wr.heap.size wr w1)(ho:Own w2 base 3 1 aG tv' ws')(hg:w1.grownBy w2 tv.ownBlock)(hf:tv'.ownBlock=tv.ownBlock∨tv'.ownBlock=some w1.heap.size) :
  oN base n0 n tb W0 (fun b=>b=tb∨tv'.ownBlock=some b) tv' ss ws' w2∧Qv X (fun b=>b=tb∨tv'.ownBlock=some b) wr w2 tv.ownBlock:=by
 have h1:=h.kept hb
 have hne:=h.aif
 have hsz:=h.size
 have hs:=hb.size
 have hs2:=hg.size
 refine⟨⟨h1.there.same fun g hgg=>hg.block g (h1.there.blk hgg).2 fun e=>?_,ho,fun b=>Iff.rfl,fun b hb'=>(hg.block b (by omega) fun e=>?_).trans (h1.keep b hb'),⟨by omega,hsz.2⟩⟩,⟨⟨hg.os.trans hb.os,hg.tape.trans hb.tape,hg.output.trans hb.output,by omega,fun k hk hn=>(hg.block k (by omega) hn).trans (hb.block k hk)⟩,fun r e=>(h.own r).2 (.inr e),fun b hb'=>?_⟩⟩
 ·cases hgg;exact hne e.symm
 ·have:=(h.waits.blk e.symm).1;omega
 ·rcases hb' with rfl | e
  ·exact .inl ((h.own _).2 (.inl rfl))
  ·rcases hf with e2 | e2
   ·exact .inl ((h.own b).2 (.inr (e2▸e)))
   ·rw[e2] at e;cases e
    have:=(ho.blk e2).2
    exact .inr ⟨hs,this⟩
theorem Own.Mc{w:World}{base E n cap:Nat}{a:Option Addr}{xs:List Nat}(h:Own w base E 1 aG (.slice a n cap) xs) :
  n=xs.length∧xs.length≤cap∧cap≤9223372036854775807∧∃ g,(∀ i,i<xs.length→a=some ⟨g,0,none⟩∧g<w.heap.size)∧∀ (u:World) (i:Nat) (h:i<xs.length),u.heap[g]?=w.heap[g]?→u.cell? ⟨g,i,none⟩=some (.int .i64 (xs[i]:Nat)):=by
 obtain⟨h1,h2,h3,g,cur,ha,hx⟩:=h.open
 refine⟨h1,h2,h3,g,fun i hi=>⟨ha i hi,(hx (by omega)).2.1.lt⟩,fun u i hi hu=>?_⟩
 obtain⟨_,hb,_,hc⟩:=hx (by omega)
 have h4:=hc i hi 0 (by decide)
 rw[show i*1+0=i by omega] at h4
 rw[World.cell?_of_block hu,hb.cell,h4]
 simp[aG]
def anu(og:Nat)(Td:Array Value)(on:Nat→List Nat)(n n0:Nat)(W0:World):Prop :=
 ∀ s,s<n→∃ (a:Option Addr) (c:Nat),∀ u:World,(∀ b,b<n0→u.heap[b]?=W0.heap[b]?)→ak u (.slice a (on s).length c) 1 aG (on s)∧Calls Tryz.prog og (#[.int .i64 s]++Td) u fun e w'=>e=.returned (.slice a (on s).length c)∧w'=u
abbrev nZ(b:Nat):Value:=.pointer (some ⟨b,0,none⟩)
theorem adW(on:Nat→List Nat)(n n0:Nat)(hn:n≤65536)(fr:List Nat)(og:Nat)(Td:Array Value)(eg:∀ args w,(callFunc og args).run Tryz.prog w=.ok (.enter og args) w)(Bn Bf Bo fb:Nat)(fa:Option Addr)(fc:Nat)(W:World)(hn0:n0≤W.heap.size)
  (hbn:Box W Bn #[.int .i64 n] 3) (hbf:Box W Bf #[.slice fa fr.length fc] 24) (hbo:Box W Bo #[.func (.func og) #[] Td] 194) (hbl:Bn<n0∧Bf<n0∧Bo<n0) (hf:Own W fb 3 1 aG (.slice fa fr.length fc) fr) (hfl:∀ g,(Value.slice fa fr.length fc).ownBlock=some g→g<n0)
  (hnd:fr.Nodup) (hlt:∀ x∈fr,x<n) (hon:anu og Td on n n0 W) (aii:∀ x,x<n→∀ t∈on x,t<n)
  (l:Nat) (J:List Nat→(Nat→Prop)→World→Prop) (hT:∀ s X X' A B row,J s X A→Qv X X' A B row→J s X' B) (hL:∀ s X A,J s X A→∀ b,X b→b<A.heap.size)
  (hY:∀ pre x X W1,J pre X W1→pre.length<n→YieldAt Fence.wide 0 Tryz.prog l (rC x) W1 fun e W'=>e=.returned (.bool true)∧J (pre++[x]) X W'∧W1.heap.size≤W'.heap.size∧∀ b,(X b∨b<n0)→W'.heap[b]?=W1.heap[b]?) (h0:J [] (fun _=>False) W) :
  Calls Tryz.prog 164 #[.func (.yield l) #[] #[],nZ Bn,nZ Bf,nZ Bo] W fun e W'=>(∃ v,e=.returned v)∧∃ xs X,xs=ny on n 0 fr∧J xs X W':=by
 have hfn:=nodup_lt_length n fr hnd hlt
 obtain⟨h1,h2,h3⟩:=hbl
 have x1:W.cell? ⟨Bn,0,none⟩=some (.int .i64 n):=hbn.cell 0
 have Gm:=ah hbf;have Gn:=ah hbo;have HF:=ah hf;have vC:=ah hfl;have HND:=ah hnd;have HLT:=ah hlt;have IZ:=ah hon;have anv:=ah aii;have WB:=ah hT;have HLL:=ah hL;have HYY:=ah hY;have H0:=ah h0
 clear hbf hbo hf hfl hnd hlt hon aii hT hL hY h0 hbn
 have hbW:=Gm.out.lt
 go_enter Tryz.func164,Tryz.ntmps164
 go_wp2_with (refine qU rfl 119 _ _ rfl Pq S9 false rfl n rfl rfl (by omega) (by simp only[maxLen];omega) W.heap.size (Nat.le_refl _) ?_;intro w1 hm1 hw1;have hb1:Below W.heap.size W w1:=by { rw[hw1];exact aj _ _ };have y1:w1.cell? ⟨Bf,0,none⟩=some (.slice fa fr.length fc):=(Gm.out.kept hb1).cell 0;have hj1:J [] (fun b=>b=W.heap.size) w1:=WB.out _ _ _ _ _ none H0.out ⟨⟨hb1.os,hb1.tape,hb1.output,hb1.size,fun k hk _=>hb1.block k hk⟩,(fun _ e=>by cases e),fun b hb=>.inr ⟨Nat.le_of_eq hb.symm,by rw[show b=_ from hb,hw1,World.size_alloc];omega⟩⟩;have hs1:w1.heap.size=W.heap.size+1:=by { rw[hw1,World.size_alloc] };have Di:=ah hm1;have HJ1:=ah hj1;have HB1:=ah hb1;clear hw1 hm1 hj1 hb1 x1)
 refine(aa0 fr fb fa fr.length fc w1 (HF.out.kept HB1.out) (by omega)).mono ?_
 rintro e w2 ⟨ca,cc,rfl,ho2,hb2⟩
 have y2:w2.cell? ⟨Bf,0,none⟩=some (.slice fa fr.length fc):=((Gm.out.kept HB1.out).kept hb2).cell 0
 have hw2:oN W.heap.size n0 n W.heap.size W (fun b=>b=W.heap.size∨(Value.slice ca fr.length cc).ownBlock=some b) (.slice ca fr.length cc) [] fr w2:=by
  refine⟨?_,ho2.mono (by omega),fun _=>Iff.rfl,fun b hb=>(hb2.block b (by omega)).trans (HB1.out.block b (by omega)),by have:=hb2.size;omega,hn0⟩
  rw[Tc]
  exact Di.out.kept hb2
 have hj2:J [] (fun b=>b=W.heap.size∨(Value.slice ca fr.length cc).ownBlock=some b) w2:=WB.out _ _ _ _ _ none HJ1.out ⟨⟨hb2.os,hb2.tape,hb2.output,hb2.size,fun k hk _=>hb2.block k hk⟩,(fun _ e=>by cases e),fun b hb=>by
  rcases hb with h | h
  ·exact .inl h
  ·exact .inr (ho2.blk h)⟩
 have HW2:=ah hw2;have HJ2:=ah hj2
 obtain⟨_,hfc,aij,adX,hfa,hfx⟩:=HF.out.Mc
 have aa3:∀ (u:World) (k:Nat) (hk:k<fr.length),(∀ b,b<n0→u.heap[b]?=W.heap[b]?)→u.cell? ⟨adX,k,none⟩=some (.int .i64 (fr[k]:Nat)):=fun u k hk hu =>
  hfx u k hk (hu adX (vC.out adX (by rw[(hfa k hk).1];rfl)))
 have HFC:=ah aa3;have Aq:=ah hfa
 clear hw2 hj2 ho2 hb2 aa3 hfa hfx Di HJ1 HB1 HF y1 hs1
 obtain⟨m,hm⟩:∃ m,fr.length=m:=⟨_,rfl⟩
 have HLEN:=ah hm
 rw[hm] at hfc y2 hfn
 simp only[hm]
 go_wp2
 go_loopw [18] (fun i wr=>∃ k:Nat,k≤m∧i=.int .i64 k∧oN W.heap.size n0 n W.heap.size W (fun b=>b=W.heap.size∨(Value.slice ca m cc).ownBlock=some b) (.slice ca m cc) (fr.take k) fr wr∧J [] (fun b=>b=W.heap.size∨(Value.slice ca m cc).ownBlock=some b) wr) (fun i _=>m - (intOf i).toNat)
 case atStart=>exact⟨0,Nat.zero_le _,rfl,by rw[←HLEN.out];exact HW2.out,by rw[←HLEN.out];exact HJ2.out⟩
 case round =>
  obtain⟨k,hk,rfl,hw,hj⟩:=hrel
  by_cases hlt:k<m
  ·have hlk:k<fr.length:=by rw[HLEN.out];exact hlt
   obtain⟨hfe,ars⟩:=Aq.out k hlk
   subst hfe
   have c0:=HFC.out wr k hlk hw.keep
   have htk:fr.take (k+1)=fr.take k++[fr[k]]:=List.take_succ_eq_append_getElem hlk
   have hsn:=HLT.out _ (List.getElem_mem hlk)
   generalize fr[k]=s at *
   have hsl:=qE n (fr.take k)
   obtain⟨g1,g2,g3,g4⟩:=hw.there.cellAt (i:=s) (j:=0) (by rw[hsl];exact hsn) (by decide)
   rw[show s*1+0=s by omega] at g1 g2
   obtain⟨m1,m2⟩:=hw.mark hsn
   have hj2:=WB.out _ _ _ _ _ _ hj m2
   have aru:=World.block_lt_of_cell? wr _ c0
   have g1':wr.cell? ⟨W.heap.size,s,none⟩=some (.bool ((rO n (fr.take k))[s]'(by rw[hsl];exact hsn))):=by rw[g1];rfl
   have Di:=ah m1;have HJ1:=ah hj2;have uz:=ah htk
   clear m1 m2 hj2 htk hw hj g1
   have hki:(k:Int)<(m:Int):=by omega
   have hk0:(0:Int)≤(k:Int):=by omega
   have hs0:(0:Int)≤(s:Int):=by omega
   have hsi:(s:Int)<(n:Int):=by omega
   go_wp2
   exact⟨⟨k+1,hlt,by push_cast;rfl,by rw[uz.out];exact Di.out,HJ1.out⟩,by simp[intOf];omega⟩
  ·obtain rfl:k=m:=by omega
   rw[←HLEN.out,List.take_length] at hw
   rw[←HLEN.out] at hj
   obtain⟨R,hR⟩:∃ R,ny on n 0 fr=R:=⟨_,rfl⟩
   have HW:=ah hw;have HJ:=ah hj;have HR:=ah hR;have VY:=ah hfn
   clear hw hj hR HFC Aq HW2 HJ2 y2 hfc aij hlt hfn
   go_wp2
   go_loopw [6,9] (fun v6 v9 wr=>∃ (f i:Nat) (ws:List Nat) (X:Nat→Prop) (a:Option Addr) (c:Nat),v6=.slice a ws.length c∧v9=.int .i64 i∧i≤ws.length∧oN W.heap.size n0 n W.heap.size W X (.slice a ws.length c) ws ws wr∧J (ws.take i) X wr∧ny on f i ws=R∧f+i=n∧ws.Nodup∧∀ x∈ws,x<n) (fun _ v9 _=>n - (intOf v9).toNat)
   case atStart=>exact⟨n,0,fr,_,ca,cc,by rw[HLEN.out],rfl,Nat.zero_le _,HW.out,HJ.out,HR.out,rfl,HND.out,HLT.out⟩
   case round =>
    obtain⟨f,i,ws,X,a,c,rfl,rfl,hi,hw,hj,hr,hfi,hnd,hlt⟩:=hrel
    have hwn:=nodup_lt_length n ws hnd hlt
    obtain⟨_,hfc,aij,wb,hwa,hwx⟩:=hw.waits.Mc
    by_cases Ob:i<ws.length
    ·obtain⟨hwe,hwl⟩:=hwa i Ob
     subst hwe
     have c0:=hwx wr i Ob rfl
     have hsn:=hlt _ (List.getElem_mem Ob)
     obtain⟨fn,tmps,assign,body,hy,hRo⟩:=HYY.out (ws.take i) ws[i] X wr hj (by rw[List.length_take];omega)
     rw[show ws.take i++[ws[i]]=ws.take (i+1) from(List.take_succ_eq_append_getElem Ob).symm] at hRo
     have hii:(i:Int)<(ws.length:Int):=by omega
     have hi0:(0:Int)≤(i:Int):=by omega
     obtain⟨f,rfl⟩:∃ f',f=f'+1:=⟨f - 1,by omega⟩
     rw[ny,List.getElem?_eq_getElem Ob] at hr
     dsimp only at hr
     obtain⟨s,hs⟩:∃ s,ws[i]=s:=⟨_,rfl⟩
     rw[hs] at c0 hsn hy hr
     have HS:=ah hs;have HWX:=ah hwx;have HWK:=ah hw;have HR2:=ah hr;have ail:=ah hnd;have ain:=ah hlt
     clear hs hwx hw hr hnd hlt hj hwa
     go_wp2
     rename_i zi arv
     refine wp_scope_straight ?_
     refine(wpIn_wide (n:=0)).1 ?_
     gi_wp2_with (refine⟨rfl,?_⟩;refine hRo.mono ?_;clear hRo;rintro e w2 ⟨rfl,hj2,hs2,hk2⟩)
     refine wpIn_wide.2 ?_
     refine wp_label ?_
     have hw2:=HWK.out.same hs2 hk2
     obtain⟨oa,oc,adY⟩:=IZ.out s hsn
     have HW2:=ah hw2;have HJ2:=ah hj2;have HOO:=ah adY
     have hD2:Below w2.heap.size w2 w2.drew:=(Below.refl _ _).drew
     have HF2:Hid (∀ u,Later w2.drew u→Box u Bo #[.func (.func og) #[] Td] 194∧u.cell? ⟨wb,i,none⟩=some (.int .i64 s)∧ak u (.slice oa (on s).length oc) 1 aG (on s)∧Calls Tryz.prog og (#[.int .i64 s]++Td) u (bM u (.slice oa (on s).length oc))∧Below w2.heap.size w2 u):=ah fun u hl=>by
      have h1:Below w2.heap.size w2 u:=hD2.trans (hl.mono hD2.size)
      have h3:=hw2.kept h1
      obtain⟨a1,a2⟩:=adY u h3.keep
      refine⟨(h3.keep Bo (by omega)).trans Gn.out,?_,a1,a2.mono fun e w' ⟨b1,b2⟩=>⟨b1,b2▸Below.refl _ _⟩,h1⟩
      have e1:=HWX.out u i Ob (((h1.block wb (by omega)).trans (hk2 wb (.inl ((HWK.out.own wb).2 (.inr rfl))))))
      rwa[HS.out] at e1
     clear hw2 hj2 adY hs2 hk2 hD2 c0
     go_wp2_with fail
     refine wpIn_wide.2 ?_
     go_wp2_with fail
     refine aH (R:=Later) 8 (by kernel_rfl) ?_
     refine pl [0,1,2,3,4,7] ?_
     repeat
      refine gU ?_ rfl (fun w1 hl=>?_) ?_
      rotate_left
      ·obtain⟨hX,hc,_,_,_⟩:=HF2.out w1 hl;have y2:w1.cell? ⟨Bo,0,none⟩=some (.func (.func og) #[] Td):=hX.cell 0;go_simp;try with_reducible rfl
      simp only[eA,eB,eC,Act.put,eD,eE,eF]
     refine dI ?_
     refine CW 5 ?_ ?_ ?_ rfl (fun w1=>?_) (fun w1 hl=>?_) ?_
     rotate_left 4
     ·exact(HF2.out w1 hl).2.2.2.1
     rotate_left
     ·go_simp
     simp only[eA,eB,eC,Act.put,eD,eE,eF]
     refine iZ 6 ?_ rfl (fun w1 hl=>?_) ?_
     rotate_left
     ·skip;go_simp;try with_reducible rfl
     simp only[eA,eB,eC,Act.put,eD,eE,eF]
     refine aQ (by kernel_rfl) (fun w1 hl=>?_) _
     obtain⟨_,_,hsl,_,rP⟩:=HF2.out w1 hl
     have hw3:=HW2.out.kept rP
     have hj3:=WB.out _ _ X _ _ none HJ2.out ⟨⟨rP.os,rP.tape,rP.output,rP.size,fun k hk _=>rP.block k hk⟩,(fun _ e=>by cases e),fun b hb=>.inl hb⟩
     obtain⟨_,_,_,hm2,LM,_,_⟩:=hsl.open
     have hL:=anv.out s hsn
     obtain⟨L,hLL⟩:∃ L,on s=L:=⟨_,rfl⟩
     rw[hLL] at HOO HR2 hL hm2 ⊢
     obtain⟨m2,adZ⟩:∃ m2,L.length=m2:=⟨_,rfl⟩
     have HW3:=ah hw3;have HJ3:=ah hj3;have Lj:=ah adZ;have ad1:=ah hL
     rw[adZ] at hm2 ⊢
     clear hw3 hj3 hl rP HF2 hsl adZ hLL hL HW2 HJ2
     go_wp2
     go_loopw [6,46] (fun v6 v46 wr=>∃ (j:Nat) (ws':List Nat) (X':Nat→Prop) (a':Option Addr) (c':Nat),v6=.slice a' ws'.length c'∧v46=.int .i64 j∧j≤m2∧ws'=lD (L.take j) ws∧oN W.heap.size n0 n W.heap.size W X' (.slice a' ws'.length c') ws' ws' wr∧J (ws.take (i+1)) X' wr) (fun _ v46 _=>m2 - (intOf v46).toNat)
     case atStart=>exact⟨0,ws,X,_,_,rfl,rfl,Nat.zero_le _,rfl,HW3.out,HJ3.out⟩
     case round =>
      obtain⟨j,ws',X',a',c',rfl,rfl,hj,hws,hw,hJ⟩:=hrel
      by_cases En:j<m2
      ·have hjl:j<L.length:=by rw[Lj.out];exact En
       obtain⟨ob,oo,_,_,_,hoa,hox⟩:=((HOO.out wr hw.keep).1).bY
       obtain rfl:=hoa j hjl
       have c0:=hox j hjl wr (Below.refl _ _)
       have hob:=World.block_lt_of_cell? wr _ c0
       have htn:L[j]<n:=ad1.out _ (List.getElem_mem hjl)
       have hws2:lD (L.take (j+1)) ws=if ws'.contains L[j] then ws' else ws'++[L[j]]:=by rw[List.take_succ_eq_append_getElem hjl,F8,←hws];rfl
       generalize L[j]=t at *
       have hsl:=qE n ws'
       have hnd':ws'.Nodup:=by rw[hws];exact yg _ _ ail.out
       have hlt':∀ x∈ws',x<n:=fun x hx=>by
        rw[hws,vF] at hx
        exact hx.elim (ain.out x) fun hx=>ad1.out x (List.mem_of_mem_take hx)
       have arw:=nodup_lt_length n ws' hnd' hlt'
       obtain⟨g1,g2,g3,g4⟩:=hw.there.cellAt (i:=t) (j:=0) (by rw[hsl];exact htn) (by decide)
       rw[show t*1+0=t by omega] at g1 g2
       have g1':wr.cell? ⟨W.heap.size,t,none⟩=some (.bool (ws'.contains t)):=by rw[g1,Em];rfl
       have hji:(j:Int)<(m2:Int):=by omega
       have hj0:(0:Int)≤(j:Int):=by omega
       have ht0:(0:Int)≤(t:Int):=by omega
       have hti:(t:Int)<(n:Int):=by omega
       clear g1 hnd' hlt'
       cases hct:ws'.contains t with
       | true =>
        rw[hct] at g1'
        rw[hct,if_pos rfl] at hws2
        have HW4:=ah hw;have HJ4:=ah hJ;have HWS:=ah hws2
        clear hw hJ hws hws2 hct
        go_wp2
        exact⟨⟨j+1,ws',X',a',c',rfl,by push_cast;rfl,En,HWS.out.symm,HW4.out,HJ4.out⟩,by simp[intOf];omega⟩
       | false =>
        rw[hct] at g1'
        rw[hct,if_neg (by simp)] at hws2
        obtain⟨m1,m3⟩:=hw.mark htn
        have hj2:=WB.out _ _ _ _ _ _ hJ m3
        have hB1:=aj (wr.setCell ⟨W.heap.size,t,none⟩ (.bool true)) (.cells #[.int .i64 t] 3)
        have ho1:=m1.waits.kept hB1
        have hbs:=m1.size.1
        have HM:=ah m1;have HJM:=ah hj2;have HWS:=ah hws2;have HB:=ah hB1;have Ae:=ah hbs
        clear hw hJ hws hws2 hct m1 m3 hj2 hB1 hbs
        go_wp2_with (at_builtin;go_must (refine dB rfl _ _ 24 rfl eX bQ rfl ho1 ⟨wr.heap.size,0,none⟩ 1 t rfl (by rw[←World.size_setCell wr ⟨W.heap.size,t,none⟩ (.bool true)];exact cu _ [.int .i64 (t:Nat)] _) (by simp only[maxLen];omega) (by omega) (by rw[World.size_alloc];have:=Ae.out;omega) ?_;intro a7 c7 w7 fC bZ nP))
        obtain⟨m4,m5⟩:=HM.out.wait HB.out fC bZ nP
        have hj7:=WB.out _ _ _ _ _ _ HJM.out m5
        exact⟨⟨j+1,ws'++[t],_,a7,c7,by rw[List.length_append];rfl,by push_cast;rfl,En,HWS.out.symm,by rw[List.length_append];exact m4,hj7⟩,by simp[intOf];omega⟩
      ·obtain rfl:j=m2:=by omega
       rw[←Lj.out,List.take_length] at hws
       have hpre:=F9 L ws
       rw[←hws] at hpre
       have htk:ws.take (i+1)=ws'.take (i+1):=by
        obtain⟨z,rfl⟩:=hpre
        rw[List.take_append_of_le_length (by omega)]
       have hle:=hpre.length_le
       have hnd':ws'.Nodup:=by rw[hws];exact yg _ _ ail.out
       have hlt':∀ x∈ws',x<n:=fun x hx=>by
        rw[hws,vF] at hx
        exact hx.elim (ain.out x) fun hx=>ad1.out x hx
       have WC:=HR2.out
       rw[←hws] at WC
       rw[htk] at hJ
       have HW4:=ah hw;have HJ4:=ah hJ;have anw:=ah hnd';have anx:=ah hlt';have HR4:=ah WC
       clear hw hJ hws hpre htk hnd' hlt' WC
       go_wp2
       refine zi _ _ ?_
       go_wp2
       exact⟨⟨f,i+1,ws',X',a',c',rfl,by push_cast;rfl,by omega,HW4.out,HJ4.out,HR4.out,by omega,anw.out,anx.out⟩,by simp[intOf];omega⟩
    ·obtain rfl:i=ws.length:=by omega
     rw[List.take_length] at hj
     have hRR:ny on f ws.length ws=ws:=by
      cases f with
      | zero=>rfl
      | succ f=>rw[ny,List.getElem?_eq_none (Nat.le_refl _)]
     rw[hRR] at hr
     go_wp2
     go_end0
     exact⟨⟨_,rfl⟩,X,by rw[hr,←HR.out] at hj;exact hj⟩
end
section
open Go.RowKit
def dw(sets:List (List Nat))(l:List Nat):Nat×List (List Nat):=match sets.idxOf? l with | some k=>(k,sets) | none=>(sets.length,sets++[l])
def rowP(y:Nf)(most:Nat)(l:List Nat):List Nat→List (List Nat)→List Int→Option (List (List Nat)×List Int)
 | [],sets,row=>some (sets,row)
 | c::low,sets,row =>
  let r:=dw sets (iy y l c)
  if most<r.2.length then none else rowP y most l low r.2 (row++[(r.1:Int)])
def jP(y:Nf)(most:Nat)(low:List Nat):Nat→Nat→List (List Nat)→List (List Int)→Option (List (List Nat)×List (List Int))
 | 0,_,sets,next=>some (sets,next)
 | f+1,i,sets,next=>if i<sets.length then (match rowP y most (sets.getD i []) low sets [] with
   | none=>none
   | some (BH,row)=>jP y most low f (i+1) BH (next++[row])) else some (sets,next)
def iJ(y:Nf)(l:List Nat):Int:=match (List.range 65).find? fun k=>decide (0<k)&&l.any fun s=>y.accept.getD s 0==k with | some k=>(k:Int) | none=>0
end
section
open Go.RowKit
structure jo where
 m:Nat
 st:Nat
 of:Nat→Nat
 lo:Value
 tb:Nat
 sv:Value
 nv:Value
def dJ(B:jo):Array Value:=(#[Value.pointer (some ⟨B.m,0,none⟩),.int .i64 B.st]++aP B.of)++#[B.lo,.pointer (some ⟨B.tb,0,none⟩),B.sv,B.nv]
theorem uH(B:jo):(dJ B).size=262:=by unfold dJ;rw[Array.size_append,Array.size_append,aT];rfl
theorem CJ(B:jo)(i:Nat)(h:i<2):(dJ B)[i]?=(#[Value.pointer (some ⟨B.m,0,none⟩),.int .i64 B.st])[i]?:=by
 unfold dJ
 rw[Array.getElem?_append_left (by rw[Array.size_append,aT];show i<2+256;omega),Array.getElem?_append_left (by exact h)]
theorem vG(B:jo)(i:Nat)(h:i<256):(dJ B)[2+i]?=some (.int .u8 (B.of i:Nat)):=by
 unfold dJ
 rw[Array.getElem?_append_left (by rw[Array.size_append,aT];show 2+i<2+256;omega),Array.getElem?_append_right (by show 2≤2+i;omega)]
 show(aP B.of)[2+i - 2]?=_
 rw[show 2+i - 2=i by omega,dX _ _ h]
theorem uI(B:jo)(i:Nat):(dJ B)[258+i]?=(#[B.lo,Value.pointer (some ⟨B.tb,0,none⟩),B.sv,B.nv])[i]?:=by
 unfold dJ
 rw[Array.getElem?_append_right (by rw[Array.size_append,aT];show 2+256≤_;omega),Array.size_append,aT]
 show(#[B.lo,Value.pointer (some ⟨B.tb,0,none⟩),B.sv,B.nv])[258+i - (2+256)]?=_
 rw[show 258+i - (2+256)=i by omega]
theorem zI{B:jo}{c:Array Value}(hs:c.size=262)(h0:c[0]?=some (.pointer (some ⟨B.m,0,none⟩)))(h1:c[1]?=some (.int .i64 B.st))(ho:∀ i,i<256→c[2+i]?=some (.int .u8 (B.of i:Nat)))
  (h2:c[258]?=some B.lo) (h3:c[259]?=some (.pointer (some ⟨B.tb,0,none⟩))) (h4:c[260]?=some B.sv) (h5:c[261]?=some B.nv):c=dJ B:=by
 apply Array.ext_getElem?
 intro i
 by_cases a:i<2
 ·rw[CJ B i a]
  rcases Nat.lt_or_ge i 1 with e | e
  ·obtain rfl:i=0:=by omega
   exact h0
  ·obtain rfl:i=1:=by omega
   exact h1
 ·by_cases b:i<258
  ·obtain⟨j,rfl⟩:∃ j,i=2+j:=⟨i - 2,by omega⟩
   rw[vG B j (by omega),ho j (by omega)]
  ·obtain⟨j,rfl⟩:∃ j,i=258+j:=⟨i - 258,by omega⟩
   rw[uI]
   by_cases d:j<4
   ·rcases Nat.lt_or_ge j 1 with e | e
    ·obtain rfl:j=0:=by omega
     exact h2
    rcases Nat.lt_or_ge j 2 with e | e
    ·obtain rfl:j=1:=by omega
     exact h3
    rcases Nat.lt_or_ge j 3 with e | e
    ·obtain rfl:j=2:=by omega
     exact h4
    ·obtain rfl:j=3:=by omega
     exact h5
   ·rw[Array.getElem?_eq_none (by omega),Array.getElem?_eq_none (by show 4≤j;omega)]
theorem ku(B:jo):(dJ B)[0]?=some (.pointer (some ⟨B.m,0,none⟩)):=CJ B 0 (by decide)
theorem uJ(B:jo):(dJ B)[1]?=some (.int .i64 B.st):=CJ B 1 (by decide)
theorem vH(B:jo):(dJ B)[258]?=some B.lo:=uI B 0
theorem vI(B:jo):(dJ B)[259]?=some (.pointer (some ⟨B.tb,0,none⟩)):=uI B 1
theorem kH(B:jo):(dJ B)[260]?=some B.sv:=uI B 2
theorem vJ(B:jo):(dJ B)[261]?=some B.nv:=uI B 3
theorem fQ(B:jo)(k i:Nat)(v:Value)(h:k<262):((dJ B).setIfInBounds k v)[i]?=if k=i then some v else (dJ B)[i]?:=by
 rw[Array.getElem?_setIfInBounds,uH]
 by_cases e:k=i
 ·rw[if_pos e,if_pos e,if_pos (by omega)]
 ·rw[if_neg e,if_neg e]
theorem Vr(B:jo)(v:Value):(dJ B).setIfInBounds 260 v=dJ { B with sv:=v }:=by
 refine zI (by rw[Array.size_setIfInBounds,uH]) ?_ ?_ ?_ ?_ ?_ ?_ ?_
 ·rw[fQ _ _ _ _ (by decide),if_neg (by decide)];exact ku B
 ·rw[fQ _ _ _ _ (by decide),if_neg (by decide)];exact uJ B
 ·intro i hi;rw[fQ _ _ _ _ (by decide),if_neg (by omega)];exact vG B i hi
 ·rw[fQ _ _ _ _ (by decide),if_neg (by decide)];exact vH B
 ·rw[fQ _ _ _ _ (by decide),if_neg (by decide)];exact vI B
 ·rw[fQ _ _ _ _ (by decide),if_pos rfl]
 ·rw[fQ _ _ _ _ (by decide),if_neg (by decide)];exact vJ B
theorem Vs(B:jo)(v:Value):(dJ B).setIfInBounds 261 v=dJ { B with nv:=v }:=by
 refine zI (by rw[Array.size_setIfInBounds,uH]) ?_ ?_ ?_ ?_ ?_ ?_ ?_
 ·rw[fQ _ _ _ _ (by decide),if_neg (by decide)];exact ku B
 ·rw[fQ _ _ _ _ (by decide),if_neg (by decide)];exact uJ B
 ·intro i hi;rw[fQ _ _ _ _ (by decide),if_neg (by omega)];exact vG B i hi
 ·rw[fQ _ _ _ _ (by decide),if_neg (by decide)];exact vH B
 ·rw[fQ _ _ _ _ (by decide),if_neg (by decide)];exact vI B
 ·rw[fQ _ _ _ _ (by decide),if_neg (by decide)];exact kH B
 ·rw[fQ _ _ _ _ (by decide),if_pos rfl]
attribute [irreducible] dJ
def dU{α:Type}(w:World)(inn:Nat→Prop)(v:Value)(enc:α→List Value)(xs:List α):Prop:=ak w v 1 enc xs∧∀ a n c,v=.slice (some a) n c→inn a.block
abbrev Dv:=Option Addr×Nat×Nat
abbrev tC(x:Dv):List Value:=[.slice x.1 x.2.1 x.2.2]
theorem Ar:fD tC 1:=⟨fun _=>rfl,fun x u hu=>by simp at hu;subst hu;rfl⟩
def pY{α:Type}(w:World)(base E:Nat)(inn:Nat→Prop)(enc:α→List Value)(v:Value)(L:List (List α)):Prop :=
 ∃ rows:List Dv,Own w base E 1 tC v rows∧rows.length=L.length∧∀ i (h1:i<rows.length) (h2:i<L.length),∃ a c,rows[i]=(a,L[i].length,c)∧dU w inn (.slice a L[i].length c) enc L[i]
section
variable {α:Type} {w w':World} {inn JY:Nat→Prop} {v:Value} {enc:α→List Value} {xs:List α}
theorem ak.Dw{size:Nat}{a:Option Addr}{n c:Nat}(h:ak w (.slice a n c) size enc xs)(hb:∀ ad,a=some ad→ad.block<w.heap.size→w'.heap[ad.block]?=w.heap[ad.block]?):ak w' (.slice a n c) size enc xs:=by
 obtain⟨a',b,o,cap,hv,hl,hc,ha,hx⟩:=h
 refine⟨a',b,o,cap,hv,hl,hc,ha,fun i hi j u hu=>?_⟩
 have h1:=hx i hi j u hu
 have h2:b<w.heap.size:=World.block_lt_of_cell? w _ h1
 rcases ha with e | ⟨e,_⟩
 ·rw[←h1]
  refine World.cell?_of_block (hb ⟨b,o,none⟩ ?_ h2)
  rw[(Value.slice.inj hv).1];exact e
 ·subst e;simp at hi
theorem dU.same(h:dU w inn v enc xs)(hb:∀ b,inn b→b<w.heap.size→w'.heap[b]?=w.heap[b]?)(hi:∀ b,inn b→JY b):dU w' JY v enc xs:=by
 obtain⟨h1,h2⟩:=h
 obtain⟨a,c,hv⟩:∃ a c,v=.slice a xs.length c:=by obtain⟨a,_,_,c,hv,_⟩:=h1;exact⟨a,c,hv⟩
 subst hv
 exact⟨h1.Dw fun ad e hlt=>hb _ (h2 ad _ _ (by rw[e])) hlt,fun a' n c' e=>hi _ (h2 a' n c' e)⟩
theorem pY.same{base E:Nat}{L:List (List α)}(h:pY w base E inn enc v L)(hb:∀ b,inn b→b<w.heap.size→w'.heap[b]?=w.heap[b]?)(hi:∀ b,inn b→JY b)(ho:∀ g,v.ownBlock=some g→w'.heap[g]?=w.heap[g]?):pY w' base E JY enc v L:=by
 obtain⟨rows,h1,h2,h3⟩:=h
 exact⟨rows,h1.same ho,h2,fun i a b=>by obtain⟨x,c,e,k⟩:=h3 i a b;exact⟨x,c,e,k.same hb hi⟩⟩
theorem pY.snoc{base E:Nat}{L:List (List α)}{v':Value}{x:Dv}{rows:List Dv}(h1:Own w' base E 1 tC v' (rows++[x]))(h2:rows.length=L.length)(h3:∀ i (a:i<rows.length) (b:i<L.length),∃ ad c,rows[i]=(ad,L[i].length,c)∧dU w' inn (.slice ad L[i].length c) enc L[i]){l:List α}{a:Option Addr}{c:Nat}(hx:x=(a,l.length,c))(hl:dU w' inn (.slice a l.length c) enc l):pY w' base E inn enc v' (L++[l]):=by
 refine⟨_,h1,by simp[h2],fun i a' b'=>?_⟩
 by_cases hi:i<rows.length
 ·obtain⟨ad,c',e1,e2⟩:=h3 i hi (by omega)
  refine⟨ad,c',?_,?_⟩
  ·rw[List.getElem_append_left hi,List.getElem_append_left (by omega)];exact e1
  ·rw[List.getElem_append_left (by omega)];exact e2
 ·have hi2:i=rows.length:=by simp at a';omega
  subst hi2
  refine⟨a,c,?_,?_⟩
  ·rw[List.getElem_append_right (Nat.le_refl _)]
   simp[h2,hx]
  ·have:(L++[l])[rows.length]=l:=by rw[List.getElem_append_right (by omega)];simp[h2]
   rw[this];exact hl
end
def setOf(l:List Nat):Nat:=l.foldl (fun T i=>T ||| 1 <<< i) 0
def keyOf(n:Nat)(l:List Nat):List UInt8:=Jv (dA n) (setOf l)
def yj(n:Nat)(l:List Nat):Prop:=∃ S,S<2 ^ n∧l=gY n S
theorem yj.set{n:Nat}{l:List Nat}(h:yj n l):setOf l<2 ^ n∧l=gY n (setOf l):=by
 obtain⟨S,h1,rfl⟩:=h
 have:=acC n S h1
 unfold setOf
 rw[this];exact⟨h1,rfl⟩
theorem aa5{n:Nat}{l l':List Nat}(h:yj n l)(h':yj n l')(e:keyOf n l=keyOf n l'):l=l':=by
 obtain⟨h1,h2⟩:=h.set
 obtain⟨h3,h4⟩:=h'.set
 have hn:n≤64*dA n:=by unfold dA;omega
 have hp:2 ^ n≤2 ^ (64*dA n):=Nat.pow_le_pow_right (by decide) hn
 have:=acD (Nat.lt_of_lt_of_le h1 hp) (Nat.lt_of_lt_of_le h3 hp) e
 rw[h2,h4,this]
theorem Md(n:Nat)(l:List Nat)(hl:yj n l):∀ (sets:List (List Nat)),(∀ x∈sets,yj n x)→(sets.map (keyOf n)).idxOf? (keyOf n l)=sets.idxOf? l
 | [],_=>rfl
 | x::sets,h=>by
  rw[List.map_cons,List.idxOf?_cons,List.idxOf?_cons,Md n l hl sets fun y hy=>h y (List.mem_cons_of_mem _ hy)]
  have hx:=h x (List.mem_cons_self ..)
  have:(keyOf n x==keyOf n l)=(x==l):=by
   rw[Bool.eq_iff_iff,beq_iff_eq,beq_iff_eq]
   exact⟨fun e=>aa5 hx hl e,fun e=>by rw[e]⟩
  rw[this]
end
end Go.Proofs.YtbemonecmmnlcaaGreatDoor
