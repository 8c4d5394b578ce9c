/- MunchNames: the names and the bytes of any tokens. No condition. The texts of N38, in few letters (mini.py). -/
import Derived.Test.YtengfapcaaacaaaGreatDoorM37
set_option linter.unusedVariables false
set_option linter.unusedSimpArgs false
set_option maxRecDepth 20000
set_option maxHeartbeats 6400000
namespace Go.Proofs.YtengfapcaaacaaaGreatDoor
open Go.RowKit Go.ChangeShapes Go.WideShapes Go.ChangeAt
theorem ajy:∃ fs,SS Tryz.prog 61 3 fs:=⟨_,Tryz.underlying61,by kernel_rfl,Tryz.underlying3,by kernel_rfl,by kernel_rfl⟩
theorem Ob(V:aG)(D:bC)(t:List UInt8)(ta:Option Addr)(tn tc:Nat)(toks:List (Int×Int×Int))(la:Option Addr)(n lc:Nat)(w:World)(h:iJ w V D)(hof:∀ b,V.of b<256)(hl:∀ x∈D.names,x.length≤9223372036854775807)
  (ht:ak w (.slice ta tn tc) 1 bK t) (hk:ak w (.slice la n lc) 3 BR toks) (hwf:∀ y∈toks,(Lit.int .i64 y.1).wf=true) (hn:n*24≤140737488355328) (htl:t.length≤140737488355328) (hT:Tab w) (hM:JX w) :
  Calls Tryz.prog 9 #[.agg V.cells,.slice ta tn tc,.slice la n lc] w (aY w (.bool true)):=by
 have hx:=Box.new w V.cells 27
 have hb0:=aj w (.cells V.cells 27)
 have HK:=ah (fun u (hu:Below w.heap.size w u)=>agq u (hT.kept hu) (hM.kept hu))
 have h1:=fun u (hu:Below w.heap.size w u)=>aeb V D toks la n lc u (h.kept hu) hl (hk.kept hu) hn
 have h2:=fun u (hu:Below w.heap.size w u)=>abw t ta tn tc toks la n lc u (ht.kept hu) (hk.kept hu) hn htl
 have H3:=ah (fun u (hu:Below w.heap.size w u) (k p q:Int) (hkw:(Lit.int .i64 k).wf=true)=>Yz V D k p q u (h.kept hu) hof hl hkw)
 have H4:=ah (fun u (hu:Below w.heap.size w u) (k p q:Int)=>Vj t ta tn tc k p q u (ht.kept hu))
 obtain⟨b,o,hnl,_,_,ha,hy⟩:=hk.open
 have HA:=ah ha;have HY:=ah hy;have HN:=ah hnl;have HWF:=ah hwf
 obtain⟨NL,hNL⟩:∃ NL,toks.map (fun x=>jD D x.1)=NL:=⟨_,rfl⟩
 obtain⟨PS,hPS⟩:∃ PS,toks.map (fun x=>iy t x.2.1 x.2.2)=PS:=⟨_,rfl⟩
 rw[hNL] at h1
 rw[hPS] at h2
 have H1:=ah h1;have H2:=ah h2
 have EU:Hid (NL.length=n):=ah (by rw[←hNL,List.length_map];exact hnl.symm)
 have HPS:Hid (PS.length=n):=ah (by rw[←hPS,List.length_map];exact hnl.symm)
 have HNG:Hid (∀ i (h:i<NL.length) (h2:i<toks.length),NL[i]=jD D toks[i].1):=ah (by intro i h h2;subst hNL;rw[List.getElem_map])
 have HPG:Hid (∀ i (h:i<PS.length) (h2:i<toks.length),PS[i]=iy t toks[i].2.1 toks[i].2.2):=ah (by intro i h h2;subst hPS;rw[List.getElem_map])
 clear h hof hl ht hk hwf hT hM h1 h2 ha hy hnl hNL hPS htl
 go_enter Tryz.func9,Tryz.ntmps9
 go_wp2_with (first | (go_at_call 30;go_must (refine(H1.out _ hb0).mono ?_;rintro e w2 hq;obtain⟨a2,c2,rfl,ho2,hb2⟩:=hq.open;clear hq;rw[EU.out] at ho2 ⊢;have hB2:=hb0.trans (hb2.mono hb0.size);have hx2:=hx.kept hb2)) | (go_at_call 31;go_must (refine(H2.out _ hB2).mono ?_;rintro e w3 ⟨a3,c3,vs,rfl,hvl,hs3,hsv,hb3⟩;rw[HPS.out] at hs3 hvl ⊢;have hB3:=hB2.trans (hb3.mono hB2.size);have hx3:=hx2.kept hb3;have ho3:=(ho2.kept hb3).slice xw)) | (refine bM (by rfl) 27 _ rfl w.heap.size rfl _ _ _ _ hx Tryz.underlying27 rfl (bQ _) ?_))
 obtain⟨nb,no,-,-,-,hna,hnx⟩:=ho3.dh (f:=fun x=>sv x)
 obtain⟨pb,po,-,-,-,hpa,hpx⟩:=hs3.dh (f:=fun x:yI=>Value.slice x.1 x.2.1 x.2.2)
 have oZ:=ah hna;have Aw:=ah hnx;have HPA:=ah hpa;have HPX:=ah hpx;have HSV:=ah hsv;have HVL:=ah hvl
 have HB3:=ah hB3;have HX3:=ah hx3
 clear hna hnx hpa hpx hsv hvl hB3 hx3 hs3 ho3 ho2 hx2 hB2 hb3 hb2 hx hb0 H1 H2
 go_loopw [9] (fun v wr=>∃ i:Nat,i≤n∧v=.int .i64 i∧Below w3.heap.size w3 wr) (fun v _=>n - (intOf v).toNat)
 case atStart=>exact⟨0,Nat.zero_le _,rfl,Below.refl _ _⟩
 case round =>
  obtain⟨i,hi,rfl,hBr⟩:=hrel
  by_cases hlt:i<n
  ·have hk2:i<toks.length:=by rw[←HN.out];exact hlt
   have hk3:i<NL.length:=by rw[EU.out];exact hlt
   have hk4:i<vs.length:=by rw[HVL.out];exact hlt
   have hk5:i<PS.length:=by rw[HPS.out];exact hlt
   obtain rfl:=HA.out i hk2
   obtain rfl:=oZ.out i hk3
   obtain rfl:=HPA.out i hk4
   have hng:=HNG.out i hk3 hk2
   have hpg:=HPG.out i hk5 hk2
   have hwf:=HWF.out _ (List.getElem_mem hk2)
   have hy:∀ u,Below w.heap.size w u→∀ j v,(BR toks[i])[j]?=some v→u.cell? ⟨b,o+i*3+j,none⟩=some v:=fun u hu j v hv=>by
    have:=HY.out i hk2 j v hv
    rw[hu.cell (World.block_lt_of_cell? w _ this)];exact this
   have hnx:=Aw.out i hk3
   have hpx:=HPX.out i hk4
   have hsv:=HSV.out i hk4 hk5
   rw[hng] at hnx
   rw[hpg] at hsv
   generalize toks[i]=x at *
   generalize vs[i]=y at *
   obtain⟨k,p,q⟩:=x
   obtain⟨pa,pn,pc⟩:=y
   dsimp only at hnx hsv hwf hpx
   have HF:Hid (∀ u,Later wr.drew u→u.cell? ⟨nb,no+i,none⟩=some (sv (jD D k))∧u.cell? ⟨pb,po+i,none⟩=some (.slice pa pn pc)∧(u.cell? ⟨b,o+i*3,none⟩=some (.int .i64 k)∧u.cell? ⟨b,o+i*3+1,none⟩=some (.int .i64 p)∧u.cell? ⟨b,o+i*3+2,none⟩=some (.int .i64 q))∧Box u w.heap.size V.cells 27 ∧
     Calls Tryz.prog 32 #[.agg V.cells,.agg #[.int .i64 k,.int .i64 p,.int .i64 q]] u (aY u (sv (jD D k)))∧(convert 35 9 (.slice pa pn pc)).run Tryz.prog u=.ok (sv (iy t p q)) u∧Below w3.heap.size w3 u):=ah fun u hu=>by
    have h1:Below wr.heap.size wr u:=((Below.refl _ _).drew).trans (hu.mono (Nat.le_refl _))
    have h2:=hBr.trans (h1.mono hBr.size)
    have h3:=HB3.out.trans (h2.mono HB3.out.size)
    have hs:=hsv.kept h2
    have hpn:pn=(iy t p q).length:=by obtain⟨_,_,h,_⟩:=hs.open;exact h
    exact⟨hnx u h2,hpx u h2,⟨hy u h3 0 _ rfl,hy u h3 1 _ rfl,hy u h3 2 _ rfl⟩,HX3.out.kept h2,H3.out u h3 k p q hwf,NQ Tryz.underlying35 Tryz.underlying5 Tryz.underlying9 hpn hs,h2⟩
   have hii:(i:Int)<(n:Int):=by omega
   have hi0:(0:Int)≤(i:Int):=by omega
   have hw1:IntKind.i64.wrap ((i:Int)+1)=(i:Int)+1:=IntWalk.i64_in _ (by omega)
   clear hnx hpx hsv hy hwf hng hpg hBr
   go_wp2_with fail
   refine aA (R:=Later) 26 (by kernel_rfl) ?_
   refine pl [0,1,2,3] ?_
   repeat
    refine dI ?_ rfl (fun w1 hl=>?_) ?_
    rotate_left
    ·obtain⟨c0,c1,⟨y0,y1,y2⟩,_,_,cv,_⟩:=HF.out w1 hl;have l0:=World.block_lt_of_cell? w1 _ c0;have l1:=World.block_lt_of_cell? w1 _ c1;have l2:=World.block_lt_of_cell? w1 _ y0;go_simp;try with_reducible rfl
    simp only[eA,eB,eC,Act.put,eD,eE,eF]
   refine bU ?_
   refine zS (t:=26) (i:=4) rfl (by kernel_rfl) (by kernel_rfl) (by kernel_rfl) (by kernel_rfl) (fun _ _ _ h=>h) (by rfl) (fun w1 hl=>lW 27 _ rfl _ rfl ((HF.out w1 hl).2.2.2.1) Tryz.underlying27 rfl (bQ V)) ?_
   simp only[eA,eB,eC,Act.put,eD,eE,eF]
   refine pl [5,6,7,8] ?_
   repeat
    refine dI ?_ rfl (fun w1 hl=>?_) ?_
    rotate_left
    ·obtain⟨c0,c1,⟨y0,y1,y2⟩,_,_,cv,_⟩:=HF.out w1 hl;have l0:=World.block_lt_of_cell? w1 _ c0;have l1:=World.block_lt_of_cell? w1 _ c1;have l2:=World.block_lt_of_cell? w1 _ y0;go_simp;try with_reducible rfl
    simp only[eA,eB,eC,Act.put,eD,eE,eF]
   refine bU ?_
   refine EI 9 ?_ ?_ ?_ rfl (fun w1=>?_) (fun w1 hl=>?_) ?_
   rotate_left 4
   ·exact(HF.out w1 hl).2.2.2.2.1
   rotate_left
   ·go_simp
   simp only[eA,eB,eC,Act.put,eD,eE,eF]
   refine pl [10,11,12,13,14,15,16,17,18,19,20,21] ?_
   repeat
    refine dI ?_ rfl (fun w1 hl=>?_) ?_
    rotate_left
    ·obtain⟨c0,c1,⟨y0,y1,y2⟩,_,_,cv,_⟩:=HF.out w1 hl;have l0:=World.block_lt_of_cell? w1 _ c0;have l1:=World.block_lt_of_cell? w1 _ c1;have l2:=World.block_lt_of_cell? w1 _ y0;go_simp;try with_reducible rfl
    simp only[eA,eB,eC,Act.put,eD,eE,eF]
   refine bU ?_
   refine aP (t:=26) (i:=22) (by kernel_rfl) rfl (fun w1 hl K hK=>?_)
   have bF:=(HF.out w1 hl).2.2.2.2.2.2
   clear HF hl
   go_simp
   refine(H4.out w1 (HB3.out.trans (bF.mono HB3.out.size)) k p q).mono ?_
   rintro e wp ⟨v,rfl,hs,⟨pa',pn',pc',rfl⟩,hbp⟩
   refine hK.out _ _ (fun _=>hbp) ?_
   clear hK K
   have kH:=bF.trans (hbp.mono bF.size)
   have HG:Hid (∀ u,Later wp u→(convert 35 9 (.slice pa' pn' pc')).run Tryz.prog u=.ok (sv (iy t p q)) u∧Below w3.heap.size w3 u):=ah fun u hu=>by
    have hs2:=hs.kept hu
    have hpn:pn'=(iy t p q).length:=by obtain⟨_,_,h,_⟩:=hs2.open;exact h
    exact⟨NQ Tryz.underlying35 Tryz.underlying5 Tryz.underlying9 hpn hs2,kH.trans (hu.mono kH.size)⟩
   clear hs hbp bF kH
   refine pl [23,24,25] ?_
   repeat
    refine dI ?_ rfl (fun w1 hl=>?_) ?_
    rotate_left
    ·have cv2:=(HG.out w1 hl).1;go_simp;try with_reducible rfl
    simp only[eA,eB,eC,Act.put,eD,eE,eF]
   refine bU ?_
   refine aH (by kernel_rfl) (fun w1 hl=>?_) _
   have lU:=(HG.out w1 hl).2
   clear HG hl
   go_wp2
   exact⟨⟨i+1,by omega,by push_cast;rfl,lU⟩,by simp[intOf];omega⟩
  ·obtain rfl:i=n:=by omega
   have mW:=HB3.out.trans (hBr.mono HB3.out.size)
   clear hBr
   go_wp2_with (go_at_call 34;go_must (refine(HK.out _ mW).mono ?_;rintro e w5 ⟨rfl,hb5⟩;have bF:=mW.trans (hb5.mono mW.size)))
   go_ret
   exact⟨rfl,bF⟩
theorem MZ(V:aG)(D:bC)(t:List Nat)(ta:Option Addr)(tc:Nat)(toks:List (Int×Int×Int))(la:Option Addr)(lc:Nat)(w:World)(h:iJ w V D)(hof:∀ b,V.of b<256)(hl:∀ x∈D.names,x.length≤9223372036854775807)
  (ht:ak w (.slice ta t.length tc) 1 gY t) (hb:∀ x∈t,x<256) (hk:ak w (.slice la toks.length lc) 3 BR toks) (hwf:∀ y∈toks,(Lit.int .i64 y.1).wf=true∧(Lit.int .i64 y.2.1).wf=true∧(Lit.int .i64 y.2.2).wf=true) (hn:toks.length*24≤140737488351232) (htl:t.length*1≤140737488351232) (hT:Tab w) (hM:JX w) :
  Calls Tryz.prog 9 #[.agg V.cells,.slice ta t.length tc,.slice la toks.length lc] w (aY w (.bool true)) :=
 Ob V D (t.map UInt8.ofNat) ta t.length tc toks la toks.length lc w h hof hl (ht.aju hb) hk (fun y hy=>(hwf y hy).1) (by omega) (by rw[List.length_map];omega) hT hM
theorem JY{W:World}(h:laidMetH Tryz.prog Rows.munchNamesRow.laid W):Tab W:=Q8 (Lib.tabIs_of_head (zs:=Lib.deBruijn64tab.map fun(x:Nat)=>(x:Int)) (rest:=[]) gTab ach Tryz.underlying320 Tryz.underlying5 (by kernel_rfl) (by kernel_rfl) h)
set_option maxRecDepth 100000 in
theorem EY(H:Type)(enc:TypeId×Value→H)(W:World)(qB:Nat)(args:Array Value)(ds gs:List (DataW H))(before:List MemPlace)
  (hval0:∀ (j:Nat) t v,Tryz.f9.params[j]?=some t→args[j]?=some v→Value.okWide Tryz.prog W .any qB t v)
  (hW:DataW.Whole enc Tryz.prog Tryz.f9.params.toList Rows.munchNamesSpec.vars false W args.toList ds gs before) (hwt:(DataW.weightsEach Tryz.prog (Tryz.f9.params.toList++(OpenSpec.ofChange Rows.munchNamesSpec).bare.plain.varTypes Tryz.prog) (ds++gs)).all (·≤reachBytes)=true) (hsh:W.ShapedOpen Tryz.prog) (hL:laidMetH Tryz.prog Rows.munchNamesRow.laid W) :
  Calls Tryz.prog 9 args W fun e W'=>∃ v,e=.returned v∧Rows.munchNamesSpec.post enc Tryz.prog Tryz.f9 false true false false W args v W':=by
 have hval:∀ (j:Nat) t v,Tryz.f9.params[j]?=some t→args[j]?=some v→Value.okWide Tryz.prog W .any qB t v:=hval0
 have hW':=hW
 have hT:=JY hL
 have hM:JX W:=Go.Proofs.cell_of_shapedOpen_int (zero:=#[.int .i64 0]) (t:=3) hsh (of_decide_eq_true (by kernel_rfl)) (by kernel_rfl) rfl (by kernel_rfl) (by kernel_rfl) Tryz.underlying3
 obtain⟨p,q,hA0,hV,rfl,hfz,hnd⟩:=hW
 have hA:DataW.TrodAll enc Tryz.prog W 0 (fun _=>true) true Tryz.f9.params.toList args.toList ds p:=hA0
 rw[Tryz.params9] at hA hval
 obtain⟨v0,vs0,d0,ds0,p0,q0,hargs,rfl,rfl,h00,r0⟩:=trodAll_cons hA
 obtain⟨v1,vs1,d1,ds1,p1,q1,rfl,rfl,rfl,h01,r1⟩:=trodAll_cons r0
 obtain⟨v2,vs2,d2,ds2,p2,q2,rfl,rfl,rfl,h02,r2⟩:=trodAll_cons r1
 obtain⟨rfl,rfl,rfl⟩:=trodAll_nil r2
 obtain rfl:args=#[v0,v1,v2]:=by cases args;simp_all
 obtain⟨rfl,rfl⟩:=trodVars_none hV
 have k00:=h00
 have lt0:∀ x∈p0,x.block<W.heap.size:=by obtain⟨m,hm⟩:=k00;exact DataW.trod_lt m _ _ _ hm
 have k01:=h01
 have lt1:∀ x∈p1,x.block<W.heap.size:=by obtain⟨m,hm⟩:=k01;exact DataW.trod_lt m _ _ _ hm
 have k02:=h02
 have lt2:∀ x∈p2,x.block<W.heap.size:=by obtain⟨m,hm⟩:=k02;exact DataW.trod_lt m _ _ _ hm
 have ajB:(DataW.weightsEach Tryz.prog [27,35,55] [d0,d1,d2]).all (·≤reachBytes)=true:=hwt
 simp only[DataW.weightsEach,List.all_append,Bool.and_eq_true,List.all_nil,and_true,List.append_nil] at ajB
 obtain⟨hw0,hw1,hw2⟩:=ajB
 obtain⟨Vd,d,rfl,Rd,ofd,nmd,wdd,lbd,nxd⟩:∃ (V:aG) (D:bC),v0=.agg V.cells∧iJ W V D∧(∀ b,V.of b<256)∧(∀ x∈D.names,x.length≤9223372036854775807)∧(Lit.int .i64 D.width).wf=true∧(∀ x∈D.label,(Lit.int .i64 x).wf=true)∧∀ r∈D.next,∀ x∈r,(Lit.int .i64 x).wf=true:=by
  obtain⟨fuel,hfu⟩:=h00
  obtain⟨cs,hcs,_⟩:=okWide_struct Tryz.underlying27 (hval 0 27 v0 rfl rfl)
  subst hcs
  obtain⟨fs,N⟩:=ahy
  obtain⟨V,D,h2,h3⟩:=ac4 N hfu
  exact⟨V,D,by rw[show cs=V.cells from Array.ext' h2],h3⟩
 obtain⟨a_w,len1,afq,rfl⟩:=okWide_slice Tryz.underlying35 (hval 1 35 v1 rfl rfl)
 obtain⟨w,hl1,hw,hbw⟩:∃ l:List Nat,len1=l.length∧ak W (.slice a_w l.length afq) 1 gY l∧∀ x∈l,x<256:=by
  obtain⟨fuel,hfu⟩:=h01
  exact WR Tryz.underlying35 Tryz.underlying5 (by kernel_rfl) hfu
 subst hl1
 obtain⟨a_l,len2,afr,rfl⟩:=okWide_slice Tryz.underlying55 (hval 2 55 v2 rfl rfl)
 obtain⟨l,hl2,hl,hwl,hzl⟩:∃ l:List (Int×Int×Int),len2=l.length∧ak W (.slice a_l l.length afr) 3 BR l∧(∀ y∈l,(Lit.int .i64 y.1).wf=true∧(Lit.int .i64 y.2.1).wf=true∧(Lit.int .i64 y.2.2).wf=true)∧l.length≤Rows.uptoBulk d2:=by
  obtain⟨fuel,hfu⟩:=h02
  obtain⟨fs,N⟩:=ajy
  exact aan Tryz.underlying55 N hfu
 subst hl2
 have hqw:w.length*1≤140737488351232:=by
  obtain⟨fuel,hfu⟩:=k01
  have:=IV Tryz.underlying35 hfu hw1
  rwa[show Tryz.prog.bytesOf 5=1 by kernel_rfl] at this
 have hql:l.length*24≤140737488351232:=by
  obtain⟨fuel,hfu⟩:=k02
  have:=IV Tryz.underlying55 hfu hw2
  rwa[show Tryz.prog.bytesOf 61=24 by kernel_rfl] at this
 clear hA0 hval0
 refine(MZ Vd d w a_w afq l a_l afr W Rd ofd nmd hw hbw hl hwl hql hqw hT hM).mono fun e W' ⟨he,bel⟩=>?_
 subst he
 exact⟨_,rfl,_,_,_,[],_,[],hW',trodAll_mk1 (shut_bool Tryz.underlying4 _),(trodAll_cons_mk (Below.trod laidOut (by kernel_rfl) (of_decide_eq_true (by kernel_rfl)) k00 bel lt0) (trodAll_cons_mk (Below.trod laidOut (by kernel_rfl) (of_decide_eq_true (by kernel_rfl)) k01 bel lt1) (trodAll_cons_mk (Below.trod laidOut (by kernel_rfl) (of_decide_eq_true (by kernel_rfl)) k02 bel lt2) trodAll_mk0))),rfl,bel.frame _,fun h=>by cases h⟩
theorem EZ(os:Os):laidMet Tryz.prog Rows.munchNamesRow.laid ((laidWorld os).forCall (fun _ _=>0) ⟨#[],#[XV,.slice none 0 0,.slice none 0 0],[]⟩).memory :=
 laidMet_of_run' 8 (by kernel_rfl) (by kernel_rfl)
theorem JZ(os:Os){H:Type}(enc:TypeId×Value→H):∃ places,DataW.whole enc Tryz.prog ((laidWorld os).forCall (fun _ _=>0) ⟨#[],#[XV,.slice none 0 0,.slice none 0 0],[]⟩).memory Tryz.f9.params.toList Rows.munchNamesSpec.vars false (#[XV,.slice none 0 0,.slice none 0 0]:Array Value).toList 8=some ([.agg [.agg (List.replicate 256 (.lit (.int .u8 0))),.lit (.int .i64 0),.nil,.nil,.nil],.nil,.nil],[],places) :=
 ⟨[],by kernel_rfl⟩
set_option maxRecDepth 100000 in
theorem Io(os:Os)(started:os.Started)(H:Type)(enc:TypeId×Value→H)(F:Stop.Interp) :
  ReturnsInHanded {} Tryz.checked os 9 .any ((OpenSpec.ofChange Rows.munchNamesSpec).preRow enc Tryz.prog Tryz.f9 Rows.munchNamesRow.domain false Rows.munchNamesRow.laid) (((OpenSpec.ofChange Rows.munchNamesSpec).at F).post enc Tryz.prog Tryz.f9 false true false false):=by
 obtain⟨places,hx⟩:=JZ os enc
 refine returnsInHanded_of_row (C:=Tryz.checked) (s:=OpenSpec.ofChange Rows.munchNamesSpec) own started (by kernel_rfl) Tryz.func9
  (witness_row_at (enc:=enc) (C:=Tryz.checked) false (laidWorld os) #[XV,.slice none 0 0,.slice none 0 0] rfl (by kernel_rfl) (by kernel_rfl) (by kernel_rfl)
   (OpenSpec.preRow_of_cond 8 hx (by kernel_rfl) (fun k hk=>by cases hk) (by kernel_rfl) (EZ os))) ?_
 intro W qB args ds gs before hval hW _ _ hwt hL hsh _
 exact EY H enc W qB args ds gs before hval hW hwt hsh hL
theorem PV:Tryz.pinned.checked.prog.inPlace 9=Rows.munchNamesRow.inPlace:=by kernel_rfl
theorem PW:Tryz.pinned.checked.prog.unfollowed 9=Rows.munchNamesRow.unfollowed:=by kernel_rfl
theorem PX:Tryz.pinned.checked.prog.recurses 9=Rows.munchNamesRow.recurses:=by kernel_rfl
theorem PY:Tryz.pinned.checked.prog.varsNamed 9=Rows.munchNamesRow.named:=by kernel_rfl
theorem PZ:Tryz.pinned.checked.prog.plainKeys=Rows.munchNamesRow.plainKeys:=by kernel_rfl
theorem P5:Tryz.pinned.checked.prog.liftsFinal=Rows.munchNamesRow.lifted:=by kernel_rfl
theorem P6:joinedFacts Tryz.pinned.checked.prog 9 Tryz.f9 ((OpenSpec.ofChange Rows.munchNamesSpec).bare) Rows.munchNamesRow=true:=by
 unfold joinedFacts
 rw[PV,PW,PX,PY,PZ,P5,ajI,agQ,agR,agS]
 kernel_rfl
theorem P7:Func.isWrapper Tryz.pinned.checked.prog Tryz.f9 Rows.munchNamesRow.wrapper Rows.munchNamesRow.mainSum:=by unfold Func.isWrapper;first | (rw[if_pos (by decide +kernel)];kernel_rfl) | (rw[if_neg (by decide +kernel)];exact⟨rfl,rfl⟩)
theorem Na:Rows.MunchNamesSaid :=
 OpenClaim.holds_of_cond 9 Tryz.f9 rfl rfl rfl rfl rfl rfl rfl ⟨rfl,rfl,rfl,rfl,rfl⟩ rfl rfl rfl rfl rfl (by kernel_rfl) Tryz.func9 P6
  (of_decide_eq_true (by kernel_rfl)) P7
  (fun os started H enc _ F=>by rw[OpenClaim.pre_eq_preRow];exact Io os started H enc F)
theorem Nb:false=Rows.munchNamesRow.goesBy Tryz.pinned.checked.prog:=by kernel_rfl
theorem J3:true=Tryz.pinned.checked.prog.looks []:=by kernel_rfl
theorem J4 (f:FuncId) (fn:Func) (hf:Tryz.pinned.checked.prog.funcNamed "doublet/doubletlaw33.MunchNames"=some f) (hfn:Tryz.pinned.checked.prog.funcs[f]?=some fn) :
  true=Tryz.pinned.checked.prog.looks []∧∀ (j:Nat) t,fn.params[j]?=some t→Tryz.pinned.checked.prog.wantsStandIn t=false:=by
 obtain rfl:f=9:=Option.some.inj ((show Tryz.prog.funcNamed "doublet/doubletlaw33.MunchNames"=some 9 by kernel_rfl).symm.trans hf) |>.symm
 obtain rfl:fn=Tryz.f9:=(Option.some.inj (Tryz.func9.symm.trans hfn)).symm
 refine⟨J3,fun j t ht=>?_⟩
 rw[Tryz.params9] at ht
 have hm:=Array.mem_of_getElem? ht
 simp only[List.mem_toArray,List.mem_cons,List.not_mem_nil,or_false] at hm
 rcases hm with rfl | rfl | rfl
 ·exact(show Tryz.prog.wantsStandIn 27=false by kernel_rfl)
 ·exact(show Tryz.prog.wantsStandIn 35=false by kernel_rfl)
 ·exact(show Tryz.prog.wantsStandIn 55=false by kernel_rfl)
theorem MunchNames_holds:Rows.MunchNamesCardSaid :=
 Claim7.holds_tied_plain_at .later [] _ _ _ _ Na (fun _ h=>by cases h) (by kernel_rfl) (fun _ h=>by cases h) munchNames_row_tie rfl ⟨rfl,rfl⟩ (by kernel_rfl) rfl J4 Nb
#print axioms MunchNames_holds
end Go.Proofs.YtengfapcaaacaaaGreatDoor
