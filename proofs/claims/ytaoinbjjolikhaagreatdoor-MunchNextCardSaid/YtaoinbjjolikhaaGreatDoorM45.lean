/- MunchNext: the token at any place of any text, by any machine. No condition. The texts of B45, in few letters (mini.py). -/
import Derived.Test.YtaoinbjjolikhaaGreatDoorM36
import Derived.Test.YtaoinbjjolikhaaGreatDoorM40
import Derived.Test.YtaoinbjjolikhaaGreatDoorM39
set_option linter.unusedVariables false
set_option linter.unusedSimpArgs false
set_option maxRecDepth 20000
set_option maxHeartbeats 3200000
namespace Go.Proofs.YtaoinbjjolikhaaGreatDoor
open Go.RowKit Go.ChangeShapes Go.WideShapes Go.ChangeAt
theorem Y7(D:aT)(t:List UInt8)(p:Int):∃ (x y z:Int) (b:Bool),oq D t p=.tuple #[.agg #[.int .i64 x,.int .i64 y,.int .i64 z],.bool b]:=by
 unfold oq
 split
 ·exact Ql _ _ _
 ·exact⟨_,_,_,_,rfl⟩
theorem QB(V:aG)(D:aT)(t:List UInt8)(ta:Option Addr)(tc:Nat)(p:Int)(w:World)(h:dS w V D)(hof:∀ b,V.of b<256)(hl:∀ x∈D.names,x.length≤9223372036854775807)(ht:ak w (.slice ta t.length tc) 1 bQ t)(hT:Tab w)(hM:xU w) :
  Calls Tryz.prog 4 #[.agg V.cells,.slice ta t.length tc,.int .i64 p] w (aX w (.bool true)):=by
 have hx:=Box.new w V.cells 27
 have hb0:=aj w (.cells V.cells 27)
 have HK:=ah (fun u (hu:Below w.heap.size w u)=>OO u (hT.kept hu) (hM.kept hu))
 by_cases hbig:t.length≤100
 ·have h1:=fun u (hu:Below w.heap.size w u)=>Xi V D t ta t.length tc p u (h.kept hu) hl (ht.kept hu) (by omega)
  have h2:=fun u (hu:Below w.heap.size w u)=>NK V D t ta t.length tc p u (h.kept hu) hof hl (ht.kept hu)
  obtain⟨x,y,z,b,hn⟩:=Y7 D t p
  rw[hn] at h1 h2
  have H1:=ah h1;have H2:=ah h2
  have d60:decide (100<(t.length:Int))=false:=decide_eq_false (by omega)
  have eb:(b==b)=true:=by simp
  clear h h1 h2 hof hl ht hT hM hbig hn
  generalize t.length=n at *
  go_enter Tryz.func4,Tryz.ntmps4
  go_wp2_with (first | (go_at_call 14;go_must (refine(H1.out _ hb0).mono ?_;rintro e w2 ⟨rfl,hb2⟩;have hc2:=hb2.alloc hb2.size (.cells #[.int .i64 x,.int .i64 y,.int .i64 z] 37);have hB2:=hb0.trans (hc2.mono hb0.size);have hx2:=hx.kept hc2;have hz2:=Box.new w2 #[.int .i64 x,.int .i64 y,.int .i64 z] 37)) | (refine aC (by rfl) 27 _ rfl w.heap.size rfl _ _ _ _ hx Tryz.underlying27 rfl (aQ _) ?_) | (go_at_call 15;go_must (refine(H2.out _ hB2).mono ?_;rintro e w3 ⟨rfl,hb3⟩;have hc3:=hb3.alloc hb3.size (.cells #[.int .i64 x,.int .i64 y,.int .i64 z] 37);have hB3:=hB2.trans (hc3.mono hB2.size);have hz3:=hz2.kept hb3;have p0:w3.cell? ⟨w2.heap.size,0,none⟩=some (.int .i64 x):=hz3.cell 0;have p1:w3.cell? ⟨w2.heap.size,1,none⟩=some (.int .i64 y):=hz3.cell 1;have p2:w3.cell? ⟨w2.heap.size,2,none⟩=some (.int .i64 z):=hz3.cell 2;have lz:=hz3.lt)) | (refine aC (by rfl) 27 _ rfl w.heap.size rfl _ _ _ _ hx2 Tryz.underlying27 rfl (aQ _) ?_) | (go_at_call 10;go_must (refine(HK.out _ hB3).mono ?_;rintro e w5 ⟨rfl,hb5⟩;have bF:=hB3.trans (hb5.mono hB3.size))))
  go_ret
  exact⟨rfl,bF⟩
 ·have d60:decide (100<(t.length:Int))=true:=decide_eq_true (by omega)
  clear h hof hl ht hT hM hbig
  generalize t.length=n at *
  go_enter Tryz.func4,Tryz.ntmps4
  go_wp2_with (go_at_call 10;go_must (refine(HK.out _ hb0).mono ?_;rintro e w2 ⟨rfl,hb2⟩))
  go_ret
  exact⟨rfl,hb0.trans (hb2.mono hb0.size)⟩
theorem OQ(V:aG)(D:aT)(l:List Nat)(ta:Option Addr)(tc:Nat)(p:Int)(w:World)(h:dS w V D)(hof:∀ b,V.of b<256)(hl:∀ x∈D.names,x.length≤9223372036854775807)(ht:ak w (.slice ta l.length tc) 1 gB l)(hb:∀ x∈l,x<256)(hT:Tab w)(hM:xU w) :
  Calls Tryz.prog 4 #[.agg V.cells,.slice ta l.length tc,.int .i64 p] w (aX w (.bool true)):=by
 have h1:=QB V D (l.map UInt8.ofNat) ta tc p w h hof hl (by rw[List.length_map];exact ht.UQ hb) hT hM
 rwa[List.length_map] at h1
theorem NQ{W:World}(h:laidMetH Tryz.prog Rows.munchNextRow.laid W):Tab W:=Af (Lib.tabIs_of_head (zs:=Lib.deBruijn64tab.map fun(x:Nat)=>(x:Int)) (rest:=[]) gTab JM Tryz.underlying302 Tryz.underlying5 (by kernel_rfl) (by kernel_rfl) h)
set_option maxRecDepth 100000 in
theorem H9(H:Type)(enc:TypeId×Value→H)(W:World)(base:Nat)(args:Array Value)(ds gs:List (DataW H))(before:List MemPlace)
  (hval0:∀ (j:Nat) t v,Tryz.f4.params[j]?=some t→args[j]?=some v→Value.okWide Tryz.prog W .any base t v)
  (hW:DataW.Whole enc Tryz.prog Tryz.f4.params.toList Rows.munchNextSpec.vars false W args.toList ds gs before) (hsh:W.ShapedOpen Tryz.prog) (hL:laidMetH Tryz.prog Rows.munchNextRow.laid W) :
  Calls Tryz.prog 4 args W fun e W'=>∃ v,e=.returned v∧Rows.munchNextSpec.post enc Tryz.prog Tryz.f4 false true false false W args v W':=by
 have hval:∀ (j:Nat) t v,Tryz.f4.params[j]?=some t→args[j]?=some v→Value.okWide Tryz.prog W .any base t v:=hval0
 have hW':=hW
 have hT:=NQ hL
 have hM:xU W:=Go.Proofs.cell_of_shapedOpen_int (zero:=#[.int .i64 0]) (t:=3) hsh (of_decide_eq_true (by kernel_rfl)) (by kernel_rfl) rfl (by kernel_rfl) (by kernel_rfl) Tryz.underlying3
 obtain⟨p,q,hA0,hV,rfl,hfz,hnd⟩:=hW
 have hA:DataW.TrodAll enc Tryz.prog W 0 (fun _=>true) true Tryz.f4.params.toList args.toList ds p:=hA0
 rw[Tryz.params4] at hA hval
 obtain⟨v0,vs0,d0,ds0,p0,q0,hargs,rfl,rfl,h00,r0⟩:=trodAll_cons hA
 obtain⟨v1,vs1,d1,ds1,p1,q1,rfl,rfl,rfl,h01,r1⟩:=trodAll_cons r0
 obtain⟨v2,vs2,d2,ds2,p2,q2,rfl,rfl,rfl,h02,r2⟩:=trodAll_cons r1
 obtain⟨rfl,rfl,rfl⟩:=trodAll_nil r2
 obtain rfl:args=#[v0,v1,v2]:=by cases args;simp_all
 obtain⟨rfl,rfl⟩:=trodVars_none hV
 have Qm:=h00
 have lt0:∀ x∈p0,x.block<W.heap.size:=by obtain⟨m,hm⟩:=Qm;exact DataW.trod_lt m _ _ _ hm
 have Qn:=h01
 have lt1:∀ x∈p1,x.block<W.heap.size:=by obtain⟨m,hm⟩:=Qn;exact DataW.trod_lt m _ _ _ hm
 have k02:=h02
 have lt2:∀ x∈p2,x.block<W.heap.size:=by obtain⟨m,hm⟩:=k02;exact DataW.trod_lt m _ _ _ hm
 obtain⟨Vd,d,rfl,Rd,ofd,nmd,wdd,lbd,nxd⟩:∃ (V:aG) (D:aT),v0=.agg V.cells∧dS W V D∧(∀ b,V.of b<256)∧(∀ x∈D.names,x.length≤9223372036854775807)∧(Lit.int .i64 D.width).wf=true∧(∀ x∈D.label,(Lit.int .i64 x).wf=true)∧∀ r∈D.next,∀ x∈r,(Lit.int .i64 x).wf=true:=by
  obtain⟨fuel,hfu⟩:=h00
  obtain⟨cs,hcs,_⟩:=okWide_struct Tryz.underlying27 (hval 0 27 v0 rfl rfl)
  subst hcs
  obtain⟨fs,N⟩:=TJ
  obtain⟨V,D,h2,h3⟩:=J5 N hfu
  exact⟨V,D,by rw[show cs=V.cells from Array.ext' h2],h3⟩
 obtain⟨Qo,len1,Cj,rfl⟩:=okWide_slice Tryz.underlying28 (hval 1 28 v1 rfl rfl)
 obtain⟨w,hl1,hw,hbw⟩:∃ l:List Nat,len1=l.length∧ak W (.slice Qo l.length Cj) 1 gB l∧∀ x∈l,x<256:=by
  obtain⟨fuel,hfu⟩:=h01
  exact Eh Tryz.underlying28 Tryz.underlying5 (by kernel_rfl) hfu
 subst hl1
 obtain⟨at_,rfl⟩:=okWide_int Tryz.underlying3 (hval 2 3 v2 rfl rfl)
 have aqB:(Lit.int .i64 at_).wf=true:=by
  obtain⟨fuel,hfu⟩:=h02
  obtain⟨z,hz1,_,hz2⟩:=DataW.trod_int Tryz.underlying3 hfu
  simp[Value.cells] at hz1
  subst hz1;exact hz2
 clear hA0 hval0
 refine(OQ Vd d w Qo Cj at_ W Rd ofd nmd hw hbw hT hM).mono fun e W' ⟨he,bel⟩=>?_
 subst he
 exact⟨_,rfl,_,_,_,[],_,[],hW',trodAll_mk1 (shut_bool Tryz.underlying4 _),(trodAll_cons_mk (Below.trod laidOut (by kernel_rfl) (of_decide_eq_true (by kernel_rfl)) Qm bel lt0) (trodAll_cons_mk (Below.trod laidOut (by kernel_rfl) (of_decide_eq_true (by kernel_rfl)) Qn bel lt1) (trodAll_cons_mk (Below.trod laidOut (by kernel_rfl) (of_decide_eq_true (by kernel_rfl)) k02 bel lt2) trodAll_mk0))),rfl,bel.frame _,fun h=>by cases h⟩
theorem Ia(os:Os):laidMet Tryz.prog Rows.munchNextRow.laid ((laidWorld os).forCall (fun _ _=>0) ⟨#[],#[zh,.slice none 0 0,.int .i64 0],[]⟩).memory :=
 laidMet_of_run' 8 (by kernel_rfl) (by kernel_rfl)
theorem NR(os:Os){H:Type}(enc:TypeId×Value→H):∃ places,DataW.whole enc Tryz.prog ((laidWorld os).forCall (fun _ _=>0) ⟨#[],#[zh,.slice none 0 0,.int .i64 0],[]⟩).memory Tryz.f4.params.toList Rows.munchNextSpec.vars false (#[zh,.slice none 0 0,.int .i64 0]:Array Value).toList 8=some ([.agg [.agg (List.replicate 256 (.lit (.int .u8 0))),.lit (.int .i64 0),.nil,.nil,.nil],.nil,.lit (.int .i64 0)],[],places) :=
 ⟨[],by kernel_rfl⟩
set_option maxRecDepth 100000 in
theorem KE(os:Os)(started:os.Started)(H:Type)(enc:TypeId×Value→H)(F:Stop.Interp) :
  ReturnsInHanded {} Tryz.checked os 4 .any ((OpenSpec.ofChange Rows.munchNextSpec).preRow enc Tryz.prog Tryz.f4 Rows.munchNextRow.domain false Rows.munchNextRow.laid) (((OpenSpec.ofChange Rows.munchNextSpec).at F).post enc Tryz.prog Tryz.f4 false true false false):=by
 obtain⟨places,hx⟩:=NR os enc
 refine returnsInHanded_of_row (C:=Tryz.checked) (s:=OpenSpec.ofChange Rows.munchNextSpec) own started (by kernel_rfl) Tryz.func4
  (witness_row_at (enc:=enc) (C:=Tryz.checked) false (laidWorld os) #[zh,.slice none 0 0,.int .i64 0] rfl (by kernel_rfl) (by kernel_rfl) (by kernel_rfl)
   (OpenSpec.preRow_of_cond 8 hx (by kernel_rfl) (fun k hk=>by cases hk) (by kernel_rfl) (Ia os))) ?_
 intro W base args ds gs before hval hW _ _ _ hL hsh _
 exact H9 H enc W base args ds gs before hval hW hsh hL
theorem OT:Rows.MunchNextSaid :=
 OpenClaim.holds_of_cond 4 Tryz.f4 rfl rfl rfl rfl rfl rfl rfl ⟨rfl,rfl,rfl,rfl,rfl⟩ rfl rfl rfl rfl rfl (by kernel_rfl) Tryz.func4 (by kernel_rfl)
  (of_decide_eq_true (by kernel_rfl)) (by unfold Func.isWrapper;first | (rw[if_pos (by decide +kernel)];kernel_rfl) | (rw[if_neg (by decide +kernel)];exact⟨rfl,rfl⟩))
  (fun os started H enc _ F=>by rw[OpenClaim.pre_eq_preRow];exact KE os started H enc F)
theorem NS (f:FuncId) (fn:Func) (hf:Tryz.pinned.checked.prog.funcNamed "doublet/doubletlaw33.MunchNext"=some f) (hfn:Tryz.pinned.checked.prog.funcs[f]?=some fn) :
  true=Tryz.pinned.checked.prog.looks []∧∀ (j:Nat) t,fn.params[j]?=some t→Tryz.pinned.checked.prog.wantsStandIn t=false:=by
 obtain rfl:f=4:=Option.some.inj ((show Tryz.prog.funcNamed "doublet/doubletlaw33.MunchNext"=some 4 by kernel_rfl).symm.trans hf) |>.symm
 obtain rfl:fn=Tryz.f4:=(Option.some.inj (Tryz.func4.symm.trans hfn)).symm
 refine⟨by kernel_rfl,fun j t ht=>?_⟩
 rw[Tryz.params4] at ht
 have hm:=Array.mem_of_getElem? ht
 simp only[List.mem_toArray,List.mem_cons,List.not_mem_nil,or_false] at hm
 rcases hm with rfl | rfl | rfl
 ·exact(show Tryz.prog.wantsStandIn 27=false by kernel_rfl)
 ·exact(show Tryz.prog.wantsStandIn 28=false by kernel_rfl)
 ·exact(show Tryz.prog.wantsStandIn 3=false by kernel_rfl)
theorem MunchNext_holds:Rows.MunchNextCardSaid :=
 Claim7.holds_tied_plain_at .later [] _ _ _ _ OT (fun _ h=>by cases h) (by kernel_rfl) (fun _ h=>by cases h) munchNext_row_tie rfl ⟨rfl,rfl⟩ (by kernel_rfl) rfl NS (by kernel_rfl)
#print axioms MunchNext_holds
end Go.Proofs.YtaoinbjjolikhaaGreatDoor
