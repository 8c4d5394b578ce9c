/- EquivTells: whether any two machines tell the same, and one a name wherever the other does, or why that can't be said. No condition. The texts of E40, in few letters (mini.py). -/
import Derived.Test.YtengfapcaaacaaaGreatDoorF34
import Derived.Test.YtengfapcaaacaaaGreatDoorF39
set_option linter.unusedVariables false
set_option linter.unusedSimpArgs false
set_option maxRecDepth 20000
set_option maxHeartbeats 6400000
namespace Go.Proofs.YtengfapcaaacaaaGreatDoor
open Go.RowKit Go.ChangeShapes Go.WideShapes Go.ChangeAt
theorem NY(VA:aA)(A:aQ)(VB:aA)(B:aQ)(s:List UInt8)(w:World)(hA:aZ w VA A)(oA:∀ b,VA.of b<256)(nA:∀ x∈A.names,x.length≤9223372036854775807)(hB:aZ w VB B)(oB:∀ b,VB.of b<256)(nB:∀ x∈B.names,x.length≤9223372036854775807)(hs:s.length≤9223372036854775807)(hT:Tab w)(hM:Ei w) :
  Calls Tryz.prog 3 #[.agg VA.cells,.agg VB.cells,sv s] w (bF w (.bool true)):=by
 have xA:=(Box.new w VA.cells 27).alloc (.cells VB.cells 27)
 have xB:=Box.new' (World.size_alloc w (.cells VA.cells 27)).symm VB.cells 27
 have hb0:=(aj w (.cells VA.cells 27)).alloc (aj w (.cells VA.cells 27)).size (.cells VB.cells 27)
 have HK:=ah (fun(u:World) (hu:Below w.heap.size w u)=>Xz u (hT.kept hu) (hM.kept hu))
 have HFW:=ah (fun(u:World) (hu:Below w.heap.size w u)=>alM VA VB A B u (hA.kept hu) (hB.kept hu) nA nB oA oB)
 obtain⟨b1,i1,QX,HE2⟩:∃ (b1:Bool) (i1:Int),Hid (∀ u:World,Below w.heap.size w u→Calls Tryz.prog 12 #[.agg VA.cells,.agg VB.cells] u (bF u (.tuple #[.bool b1,.int .i64 i1])))∧Hid (∀ u:World,Below w.heap.size w u→Calls Tryz.prog 13 #[.agg VA.cells,.agg VB.cells] u (bF u (.tuple #[.bool b1,.int .i64 i1]))) :=
  ⟨_,_,ah (fun u hu=>JM VA VB A B u (hA.kept hu) (hB.kept hu) nA nB (hT.kept hu)),ah (fun u hu=>VK VA VB A B u (hA.kept hu) (hB.kept hu) nA nB oA oB)⟩
 obtain⟨b2,i2,HI1,HI2⟩:∃ (b1:Bool) (i1:Int),Hid (∀ u:World,Below w.heap.size w u→Calls Tryz.prog 14 #[.agg VA.cells,.agg VB.cells,sv s] u (bF u (.tuple #[.bool b1,.int .i64 i1])))∧Hid (∀ u:World,Below w.heap.size w u→Calls Tryz.prog 15 #[.agg VA.cells,.agg VB.cells,sv s] u (bF u (.tuple #[.bool b1,.int .i64 i1]))) :=
  ⟨_,_,ah (fun u hu=>BH VA VB A B s hs u (hA.kept hu) (hB.kept hu) nA nB (hT.kept hu)),ah (fun u hu=>UL VA VB A B s hs u (hA.kept hu) (hB.kept hu) nA nB oA oB)⟩
 clear hA hB nA nB oA oB hT hM hs
 go_enter Tryz.func3,Tryz.ntmps3
 go_wp2_with (first | (refine ak (by rfl) 27 _ rfl w.heap.size rfl _ _ _ _ xA Tryz.underlying27 rfl (ay _) ?_) | (refine ak (by rfl) 27 _ rfl (w.heap.size+1) rfl _ _ _ _ xB Tryz.underlying27 rfl (ay _) ?_))
 refine(HFW.out _ hb0).mono ?_
 rintro e w2 ⟨bf,rfl,hb2⟩
 have mQ:=xA.kept hb2
 have jc:=xB.kept hb2
 have hB2:=hb0.trans (hb2.mono hb0.size)
 clear xA xB hb2
 cases bf with
 | false =>
  go_wp2_with fail
  refine(HK.out _ hB2).mono ?_
  rintro e w3 ⟨rfl,hb3⟩
  go_wp2
  go_ret
  exact⟨rfl,hB2.trans (hb3.mono hB2.size)⟩
 | true =>
  go_wp2_with (first | (refine ak (by rfl) 27 _ rfl w.heap.size rfl _ _ _ _ mQ Tryz.underlying27 rfl (ay _) ?_) | (refine ak (by rfl) 27 _ rfl (w.heap.size+1) rfl _ _ _ _ jc Tryz.underlying27 rfl (ay _) ?_))
  refine(QX.out _ hB2).mono ?_
  rintro e w3 ⟨rfl,hb3⟩
  have mV:=mQ.kept hb3
  have lH:=jc.kept hb3
  have hB3:=hB2.trans (hb3.mono hB2.size)
  clear mQ jc hb3
  go_wp2_with (first | (refine ak (by rfl) 27 _ rfl w.heap.size rfl _ _ _ _ mV Tryz.underlying27 rfl (ay _) ?_) | (refine ak (by rfl) 27 _ rfl (w.heap.size+1) rfl _ _ _ _ lH Tryz.underlying27 rfl (ay _) ?_))
  refine(HE2.out _ hB3).mono ?_
  rintro e w4 ⟨rfl,hb4⟩
  have tZ:=mV.kept hb4
  have ug:=lH.kept hb4
  have hB4:=hB3.trans (hb4.mono hB3.size)
  clear mV lH hb4
  go_wp2_with (first | (refine ak (by rfl) 27 _ rfl w.heap.size rfl _ _ _ _ tZ Tryz.underlying27 rfl (ay _) ?_) | (refine ak (by rfl) 27 _ rfl (w.heap.size+1) rfl _ _ _ _ ug Tryz.underlying27 rfl (ay _) ?_))
  refine(HI1.out _ hB4).mono ?_
  rintro e w5 ⟨rfl,hb5⟩
  have Xb:=tZ.kept hb5
  have MI:=ug.kept hb5
  have bI:=hB4.trans (hb5.mono hB4.size)
  clear tZ ug hb5
  go_wp2_with (first | (refine ak (by rfl) 27 _ rfl w.heap.size rfl _ _ _ _ Xb Tryz.underlying27 rfl (ay _) ?_) | (refine ak (by rfl) 27 _ rfl (w.heap.size+1) rfl _ _ _ _ MI Tryz.underlying27 rfl (ay _) ?_))
  refine(HI2.out _ bI).mono ?_
  rintro e w6 ⟨rfl,hb6⟩
  have fF:=bI.trans (hb6.mono bI.size)
  clear Xb MI hb6
  go_wp2_with fail
  refine(HK.out _ fF).mono ?_
  rintro e w7 ⟨rfl,hb7⟩
  go_wp2
  go_ret
  exact⟨rfl,fF.trans (hb7.mono fF.size)⟩
theorem JO{W:World}(h:laidMetH Tryz.prog Rows.equivTellsRow.laid W):Tab W:=Fz (Lib.tabIs_of_head (zs:=Lib.deBruijn64tab.map fun(x:Nat)=>(x:Int)) (rest:=[]) gTab Ru Tryz.underlying320 Tryz.underlying5 (by kernel_rfl) (by kernel_rfl) h)
set_option maxRecDepth 100000 in
theorem EO(H:Type)(enc:TypeId×Value→H)(W:World)(base:Nat)(args:Array Value)(ds gs:List (DataW H))(before:List MemPlace)
  (hval0:∀ (j:Nat) t v,Tryz.f3.params[j]?=some t→args[j]?=some v→Value.okWide Tryz.prog W .any base t v)
  (hW:DataW.Whole enc Tryz.prog Tryz.f3.params.toList Rows.equivTellsSpec.vars false W args.toList ds gs before) (hsh:W.ShapedOpen Tryz.prog) (hL:laidMetH Tryz.prog Rows.equivTellsRow.laid W) :
  Calls Tryz.prog 3 args W fun e W'=>∃ v,e=.returned v∧Rows.equivTellsSpec.post enc Tryz.prog Tryz.f3 false true false false W args v W':=by
 have hval:∀ (j:Nat) t v,Tryz.f3.params[j]?=some t→args[j]?=some v→Value.okWide Tryz.prog W .any base t v:=hval0
 have hW':=hW
 have hT:=JO hL
 have hM:Ei W:=Go.Proofs.cell_of_shapedOpen_int (zero:=#[.int .i64 0]) (t:=3) hsh (of_decide_eq_true (by kernel_rfl)) (by kernel_rfl) rfl (by kernel_rfl) (by kernel_rfl) Tryz.underlying3
 obtain⟨p,q,hA0,hV,rfl,hfz,hnd⟩:=hW
 have hA:DataW.TrodAll enc Tryz.prog W 0 (fun _=>true) true Tryz.f3.params.toList args.toList ds p:=hA0
 rw[Tryz.params3] at hA hval
 obtain⟨v0,vs0,d0,ds0,p0,q0,hargs,rfl,rfl,h00,r0⟩:=trodAll_cons hA
 obtain⟨v1,vs1,d1,ds1,p1,q1,rfl,rfl,rfl,h01,r1⟩:=trodAll_cons r0
 obtain⟨v2,vs2,d2,ds2,p2,q2,rfl,rfl,rfl,h02,r2⟩:=trodAll_cons r1
 obtain⟨rfl,rfl,rfl⟩:=trodAll_nil r2
 obtain rfl:args=#[v0,v1,v2]:=by cases args;simp_all
 obtain⟨rfl,rfl⟩:=trodVars_none hV
 have k00:=h00
 have lt0:∀ x∈p0,x.block<W.heap.size:=by obtain⟨m,hm⟩:=k00;exact DataW.trod_lt m _ _ _ hm
 have k01:=h01
 have lt1:∀ x∈p1,x.block<W.heap.size:=by obtain⟨m,hm⟩:=k01;exact DataW.trod_lt m _ _ _ hm
 have k02:=h02
 have lt2:∀ x∈p2,x.block<W.heap.size:=by obtain⟨m,hm⟩:=k02;exact DataW.trod_lt m _ _ _ hm
 obtain⟨Va,a,rfl,Ra,ofa,nma,wda,lba,nxa⟩:∃ (V:aA) (D:aQ),v0=.agg V.cells∧aZ W V D∧(∀ b,V.of b<256)∧(∀ x∈D.names,x.length≤9223372036854775807)∧(Lit.int .i64 D.width).wf=true∧(∀ x∈D.label,(Lit.int .i64 x).wf=true)∧∀ r∈D.next,∀ x∈r,(Lit.int .i64 x).wf=true:=by
  obtain⟨fuel,hfu⟩:=h00
  obtain⟨cs,hcs,_⟩:=okWide_struct Tryz.underlying27 (hval 0 27 v0 rfl rfl)
  subst hcs
  obtain⟨fs,N⟩:=Lh
  obtain⟨V,D,h2,h3⟩:=D9 N hfu
  exact⟨V,D,by rw[show cs=V.cells from Array.ext' h2],h3⟩
 obtain⟨Vb,b,rfl,Rb,ofb,nmb,Wp,lbb,nxb⟩:∃ (V:aA) (D:aQ),v1=.agg V.cells∧aZ W V D∧(∀ b,V.of b<256)∧(∀ x∈D.names,x.length≤9223372036854775807)∧(Lit.int .i64 D.width).wf=true∧(∀ x∈D.label,(Lit.int .i64 x).wf=true)∧∀ r∈D.next,∀ x∈r,(Lit.int .i64 x).wf=true:=by
  obtain⟨fuel,hfu⟩:=h01
  obtain⟨cs,hcs,_⟩:=okWide_struct Tryz.underlying27 (hval 1 27 v1 rfl rfl)
  subst hcs
  obtain⟨fs,N⟩:=Lh
  obtain⟨V,D,h2,h3⟩:=D9 N hfu
  exact⟨V,D,by rw[show cs=V.cells from Array.ext' h2],h3⟩
 obtain⟨name,rfl,hname⟩:∃ l:List UInt8,v2=sv l∧l.length≤9223372036854775807:=by
  obtain⟨s,h1,_,_,h2⟩:=Go.ChangeMaps.open_string Tryz.underlying9 (hval 2 9 v2 rfl rfl) h02
  exact⟨s.data.toList,by rw[h1,afy],by rw[Array.length_toList];exact h2⟩
 clear hA0 hval0
 refine(NY Va a Vb b name W Ra ofa nma Rb ofb nmb hname hT hM).mono fun e W' ⟨he,bel⟩=>?_
 subst he
 exact⟨_,rfl,_,_,_,[],_,[],hW',trodAll_mk1 (shut_bool Tryz.underlying4 _),(trodAll_cons_mk (Below.trod laidOut (by kernel_rfl) (of_decide_eq_true (by kernel_rfl)) k00 bel lt0) (trodAll_cons_mk (Below.trod laidOut (by kernel_rfl) (of_decide_eq_true (by kernel_rfl)) k01 bel lt1) (trodAll_cons_mk (Below.trod laidOut (by kernel_rfl) (of_decide_eq_true (by kernel_rfl)) k02 bel lt2) trodAll_mk0))),rfl,bel.frame _,fun h=>by cases h⟩
theorem EP(os:Os):laidMet Tryz.prog Rows.equivTellsRow.laid ((laidWorld os).forCall (fun _ _=>0) ⟨#[],#[sH,sH,.string ⟨#[]⟩],[]⟩).memory :=
 laidMet_of_run' 8 (by kernel_rfl) (by kernel_rfl)
theorem JQ(os:Os){H:Type}(enc:TypeId×Value→H):∃ places,DataW.whole enc Tryz.prog ((laidWorld os).forCall (fun _ _=>0) ⟨#[],#[sH,sH,.string ⟨#[]⟩],[]⟩).memory Tryz.f3.params.toList Rows.equivTellsSpec.vars false (#[sH,sH,.string ⟨#[]⟩]:Array Value).toList 8=some ([.agg [.agg (List.replicate 256 (.lit (.int .u8 0))),.lit (.int .i64 0),.nil,.nil,.nil],.agg [.agg (List.replicate 256 (.lit (.int .u8 0))),.lit (.int .i64 0),.nil,.nil,.nil],.lit (.string [])],[],places) :=
 ⟨[],by kernel_rfl⟩
set_option maxRecDepth 100000 in
theorem He(os:Os)(started:os.Started)(H:Type)(enc:TypeId×Value→H)(F:Stop.Interp) :
  ReturnsInHanded {} Tryz.checked os 3 .any ((OpenSpec.ofChange Rows.equivTellsSpec).preRow enc Tryz.prog Tryz.f3 Rows.equivTellsRow.domain false Rows.equivTellsRow.laid) (((OpenSpec.ofChange Rows.equivTellsSpec).at F).post enc Tryz.prog Tryz.f3 false true false false):=by
 obtain⟨places,hx⟩:=JQ os enc
 refine returnsInHanded_of_row (C:=Tryz.checked) (s:=OpenSpec.ofChange Rows.equivTellsSpec) own started (by kernel_rfl) Tryz.func3
  (witness_row_at (enc:=enc) (C:=Tryz.checked) false (laidWorld os) #[sH,sH,.string ⟨#[]⟩] rfl (by kernel_rfl) (by kernel_rfl) (by kernel_rfl)
   (OpenSpec.preRow_of_cond 8 hx (by kernel_rfl) (fun k hk=>by cases hk) (by kernel_rfl) (EP os))) ?_
 intro W base args ds gs before hval hW _ _ _ hL hsh _
 exact EO H enc W base args ds gs before hval hW hsh hL
theorem Qc:Tryz.pinned.checked.prog.inPlace 3=Rows.equivTellsRow.inPlace:=by kernel_rfl
theorem Qd:Tryz.pinned.checked.prog.unfollowed 3=Rows.equivTellsRow.unfollowed:=by kernel_rfl
theorem Qe:Tryz.pinned.checked.prog.recurses 3=Rows.equivTellsRow.recurses:=by kernel_rfl
theorem Qg:Tryz.pinned.checked.prog.varsNamed 3=Rows.equivTellsRow.named:=by kernel_rfl
theorem Qh:Tryz.pinned.checked.prog.plainKeys=Rows.equivTellsRow.plainKeys:=by kernel_rfl
theorem Qi:Tryz.pinned.checked.prog.liftsFinal=Rows.equivTellsRow.lifted:=by kernel_rfl
theorem Qj:joinedFacts Tryz.pinned.checked.prog 3 Tryz.f3 ((OpenSpec.ofChange Rows.equivTellsSpec).bare) Rows.equivTellsRow=true:=by
 unfold joinedFacts
 rw[Qc,Qd,Qe,Qg,Qh,Qi,afb,aak,aal,aam]
 kernel_rfl
theorem Qk:Func.isWrapper Tryz.pinned.checked.prog Tryz.f3 Rows.equivTellsRow.wrapper Rows.equivTellsRow.mainSum:=by unfold Func.isWrapper;first | (rw[if_pos (by decide +kernel)];kernel_rfl) | (rw[if_neg (by decide +kernel)];exact⟨rfl,rfl⟩)
theorem MR:Rows.EquivTellsSaid :=
 OpenClaim.holds_of_cond 3 Tryz.f3 rfl rfl rfl rfl rfl rfl rfl ⟨rfl,rfl,rfl,rfl,rfl⟩ rfl rfl rfl rfl rfl (by kernel_rfl) Tryz.func3 Qj
  (of_decide_eq_true (by kernel_rfl)) Qk
  (fun os started H enc _ F=>by rw[OpenClaim.pre_eq_preRow];exact He os started H enc F)
theorem MS:false=Rows.equivTellsRow.goesBy Tryz.pinned.checked.prog:=by kernel_rfl
theorem JR:true=Tryz.pinned.checked.prog.looks []:=by kernel_rfl
theorem JU (f:FuncId) (fn:Func) (hf:Tryz.pinned.checked.prog.funcNamed "doublet/doubletlaw30.EquivTells"=some f) (hfn:Tryz.pinned.checked.prog.funcs[f]?=some fn) :
  true=Tryz.pinned.checked.prog.looks []∧∀ (j:Nat) t,fn.params[j]?=some t→Tryz.pinned.checked.prog.wantsStandIn t=false:=by
 obtain rfl:f=3:=Option.some.inj ((show Tryz.prog.funcNamed "doublet/doubletlaw30.EquivTells"=some 3 by kernel_rfl).symm.trans hf) |>.symm
 obtain rfl:fn=Tryz.f3:=(Option.some.inj (Tryz.func3.symm.trans hfn)).symm
 refine⟨JR,fun j t ht=>?_⟩
 rw[Tryz.params3] at ht
 have hm:=Array.mem_of_getElem? ht
 simp only[List.mem_toArray,List.mem_cons,List.not_mem_nil,or_false] at hm
 rcases hm with rfl | rfl | rfl
 ·exact(show Tryz.prog.wantsStandIn 27=false by kernel_rfl)
 ·exact(show Tryz.prog.wantsStandIn 27=false by kernel_rfl)
 ·exact(show Tryz.prog.wantsStandIn 9=false by kernel_rfl)
theorem EquivTells_holds:Rows.EquivTellsCardSaid :=
 Claim7.holds_tied_plain_at .later [] _ _ _ _ MR (fun _ h=>by cases h) (by kernel_rfl) (fun _ h=>by cases h) equivTells_row_tie rfl ⟨rfl,rfl⟩ (by kernel_rfl) rfl JU MS
#print axioms EquivTells_holds
end Go.Proofs.YtengfapcaaacaaaGreatDoor
