/- StreamNil: a stream that is none tells nothing. No condition. The texts of S32, in few letters (mini.py). -/
import Derived.Test.YtbemonecmmnlcaaGreatDoorM31
set_option linter.unusedVariables false
set_option linter.unusedSimpArgs false
set_option maxRecDepth 20000
set_option maxHeartbeats 3200000
namespace Go.Proofs.YtbemonecmmnlcaaGreatDoor
open Go.RowKit Go.ChangeShapes Go.WideShapes Go.ChangeAt
theorem abg(v:Value)(w:World):Calls Tryz.prog 46 #[.pointer none,v] w (bV w (.slice none 0 0)):=by
 go_enter Tryz.func46,Tryz.ntmps46
 go_wp2
 go_ret
 exact⟨rfl,Below.refl _ _⟩
theorem adE(w:World):Calls Tryz.prog 43 #[.pointer none] w (bV w (.slice none 0 0)):=by
 go_enter Tryz.func43,Tryz.ntmps43
 go_wp2
 go_ret
 exact⟨rfl,Below.refl _ _⟩
theorem abh(w:World):Calls Tryz.prog 51 #[.pointer none] w (bV w (.int .i64 0)):=by
 go_enter Tryz.func51,Tryz.ntmps51
 go_wp2
 go_ret
 exact⟨rfl,Below.refl _ _⟩
theorem agU(w:World):Calls Tryz.prog 48 #[.pointer none] w (bV w (.int .i64 0)):=by
 go_enter Tryz.func48,Tryz.ntmps48
 go_wp2
 go_ret
 exact⟨rfl,Below.refl _ _⟩
theorem YI(w:World):Calls Tryz.prog 49 #[.pointer none] w (bV w (.bool false)):=by
 go_enter Tryz.func49,Tryz.ntmps49
 go_wp2
 go_ret
 exact⟨rfl,Below.refl _ _⟩
theorem MQ(v:Value)(w:World)(hT:Tab w)(hM:zQ w):Calls Tryz.prog 11 #[v] w (bV w (.bool true)):=by
 have HK:=ah (fun u (hu:Below w.heap.size w u)=>adD u (hT.kept hu) (hM.kept hu))
 clear hT hM
 go_enter Tryz.func11,Tryz.ntmps11
 go_wp2_with (first | (go_at_call 46;go_must (refine(abg _ _).mono ?_;rintro e w1 ⟨rfl,hb1⟩)) | (go_at_call 43;go_must (refine(adE _).mono ?_;rintro e w2 ⟨rfl,hb2⟩;have hB2:=hb1.trans (hb2.mono hb1.size))) | (go_at_call 51;go_must (refine(abh _).mono ?_;rintro e w3 ⟨rfl,hb3⟩;have hB3:=hB2.trans (hb3.mono hB2.size))) | (go_at_call 48;go_must (refine(agU _).mono ?_;rintro e w4 ⟨rfl,hb4⟩;have hB4:=hB3.trans (hb4.mono hB3.size))) | (go_at_call 49;go_must (refine(YI _).mono ?_;rintro e w5 ⟨rfl,hb5⟩;have dw:=hB4.trans (hb5.mono hB4.size))) | (go_at_call 42;go_must (refine(HK.out _ dw).mono ?_;rintro e w6 ⟨rfl,hb6⟩;have lH:=dw.trans (hb6.mono dw.size))))
 go_ret
 exact⟨rfl,lH⟩
theorem JB{W:World}(h:laidMetH Tryz.prog Rows.streamNilRow.laid W):Tab W:=Oc (Lib.tabIs_of_head (zs:=Lib.deBruijn64tab.map fun(x:Nat)=>(x:Int)) (rest:=[]) gTab Zi Tryz.underlying358 Tryz.underlying5 (by kernel_rfl) (by kernel_rfl) h)
set_option maxRecDepth 100000 in
theorem Es(H:Type)(enc:TypeId×Value→H)(W:World)(base:Nat)(args:Array Value)(ds gs:List (DataW H))(before:List MemPlace)
  (hval0:∀ (j:Nat) t v,Tryz.f11.params[j]?=some t→args[j]?=some v→Value.okWide Tryz.prog W .any base t v)
  (hW:DataW.Whole enc Tryz.prog Tryz.f11.params.toList Rows.streamNilSpec.vars false W args.toList ds gs before) (hsh:W.ShapedOpen Tryz.prog) (hL:laidMetH Tryz.prog Rows.streamNilRow.laid W) :
  Calls Tryz.prog 11 args W fun e W'=>∃ v,e=.returned v∧Rows.streamNilSpec.post enc Tryz.prog Tryz.f11 false true false false W args v W':=by
 have hval:∀ (j:Nat) t v,Tryz.f11.params[j]?=some t→args[j]?=some v→Value.okWide Tryz.prog W .any base t v:=hval0
 have hW':=hW
 have hT:=JB hL
 have hM:zQ W:=Go.Proofs.cell_of_shapedOpen_int (zero:=#[.int .i64 0]) (t:=3) hsh (of_decide_eq_true (by kernel_rfl)) (by kernel_rfl) rfl (by kernel_rfl) (by kernel_rfl) Tryz.underlying3
 obtain⟨p,q,hA0,hV,rfl,hfz,hnd⟩:=hW
 have hA:DataW.TrodAll enc Tryz.prog W 0 (fun _=>true) true Tryz.f11.params.toList args.toList ds p:=hA0
 rw[Tryz.params11] at hA hval
 obtain⟨v0,vs0,d0,ds0,p0,q0,hargs,rfl,rfl,h00,r0⟩:=trodAll_cons hA
 obtain⟨rfl,rfl,rfl⟩:=trodAll_nil r0
 obtain rfl:args=#[v0]:=by cases args;simp_all
 obtain⟨rfl,rfl⟩:=trodVars_none hV
 have k00:=h00
 have lt0:∀ x∈p0,x.block<W.heap.size:=by obtain⟨m,hm⟩:=k00;exact DataW.trod_lt m _ _ _ hm
 obtain⟨a_b,len0,ahl,rfl⟩:=okWide_slice Tryz.underlying35 (hval 0 35 v0 rfl rfl)
 obtain⟨b,hl0,hb,hbb⟩:∃ l:List Nat,len0=l.length∧ak W (.slice a_b l.length ahl) 1 gX l∧∀ x∈l,x<256:=by
  obtain⟨fuel,hfu⟩:=h00
  exact TG Tryz.underlying35 Tryz.underlying5 (by kernel_rfl) hfu
 subst hl0
 clear hA0 hval0
 refine(MQ _ W hT hM).mono fun e W' ⟨he,bel⟩=>?_
 subst he
 exact⟨_,rfl,_,_,_,[],_,[],hW',trodAll_mk1 (shut_bool Tryz.underlying4 _),(trodAll_cons_mk (Below.trod laidOut (by kernel_rfl) (of_decide_eq_true (by kernel_rfl)) k00 bel lt0) trodAll_mk0),rfl,bel.frame _,fun h=>by cases h⟩
theorem Et(os:Os):laidMet Tryz.prog Rows.streamNilRow.laid ((laidWorld os).forCall (fun _ _=>0) ⟨#[],#[.slice none 0 0],[]⟩).memory :=
 laidMet_of_run' 8 (by kernel_rfl) (by kernel_rfl)
theorem JC(os:Os){H:Type}(enc:TypeId×Value→H):∃ places,DataW.whole enc Tryz.prog ((laidWorld os).forCall (fun _ _=>0) ⟨#[],#[.slice none 0 0],[]⟩).memory Tryz.f11.params.toList Rows.streamNilSpec.vars false (#[.slice none 0 0]:Array Value).toList 8=some ([.nil],[],places) :=
 ⟨[],by kernel_rfl⟩
set_option maxRecDepth 100000 in
theorem G9(os:Os)(started:os.Started)(H:Type)(enc:TypeId×Value→H)(F:Stop.Interp) :
  ReturnsInHanded {} Tryz.checked os 11 .any ((OpenSpec.ofChange Rows.streamNilSpec).preRow enc Tryz.prog Tryz.f11 Rows.streamNilRow.domain false Rows.streamNilRow.laid) (((OpenSpec.ofChange Rows.streamNilSpec).at F).post enc Tryz.prog Tryz.f11 false true false false):=by
 obtain⟨places,hx⟩:=JC os enc
 refine returnsInHanded_of_row (C:=Tryz.checked) (s:=OpenSpec.ofChange Rows.streamNilSpec) own started (by kernel_rfl) Tryz.func11
  (witness_row_at (enc:=enc) (C:=Tryz.checked) false (laidWorld os) #[.slice none 0 0] rfl (by kernel_rfl) (by kernel_rfl) (by kernel_rfl)
   (OpenSpec.preRow_of_cond 8 hx (by kernel_rfl) (fun k hk=>by cases hk) (by kernel_rfl) (Et os))) ?_
 intro W base args ds gs before hval hW _ _ _ hL hsh _
 exact Es H enc W base args ds gs before hval hW hsh hL
theorem Qm:Tryz.pinned.checked.prog.inPlace 11=Rows.streamNilRow.inPlace:=by kernel_rfl
theorem Qn:Tryz.pinned.checked.prog.unfollowed 11=Rows.streamNilRow.unfollowed:=by kernel_rfl
theorem Qo:Tryz.pinned.checked.prog.recurses 11=Rows.streamNilRow.recurses:=by kernel_rfl
theorem Qp:Tryz.pinned.checked.prog.varsNamed 11=Rows.streamNilRow.named:=by kernel_rfl
theorem Qq:Tryz.pinned.checked.prog.plainKeys=Rows.streamNilRow.plainKeys:=by kernel_rfl
theorem Qr:Tryz.pinned.checked.prog.liftsFinal=Rows.streamNilRow.lifted:=by kernel_rfl
theorem Qs:joinedFacts Tryz.pinned.checked.prog 11 Tryz.f11 ((OpenSpec.ofChange Rows.streamNilSpec).bare) Rows.streamNilRow=true:=by
 unfold joinedFacts
 rw[Qm,Qn,Qo,Qp,Qq,Qr,ag1,ad1,ad2,ad3]
 kernel_rfl
theorem Qu:Func.isWrapper Tryz.pinned.checked.prog Tryz.f11 Rows.streamNilRow.wrapper Rows.streamNilRow.mainSum:=by unfold Func.isWrapper;first | (rw[if_pos (by decide +kernel)];kernel_rfl) | (rw[if_neg (by decide +kernel)];exact⟨rfl,rfl⟩)
theorem KA:Rows.StreamNilSaid :=
 OpenClaim.holds_of_cond 11 Tryz.f11 rfl rfl rfl rfl rfl rfl rfl ⟨rfl,rfl,rfl,rfl,rfl⟩ rfl rfl rfl rfl rfl (by kernel_rfl) Tryz.func11 Qs
  (of_decide_eq_true (by kernel_rfl)) Qu
  (fun os started H enc _ F=>by rw[OpenClaim.pre_eq_preRow];exact G9 os started H enc F)
theorem KC:false=Rows.streamNilRow.goesBy Tryz.pinned.checked.prog:=by kernel_rfl
theorem JD:true=Tryz.pinned.checked.prog.looks []:=by kernel_rfl
theorem JE (f:FuncId) (fn:Func) (hf:Tryz.pinned.checked.prog.funcNamed "doublet/doubletlaw34.StreamNil"=some f) (hfn:Tryz.pinned.checked.prog.funcs[f]?=some fn) :
  true=Tryz.pinned.checked.prog.looks []∧∀ (j:Nat) t,fn.params[j]?=some t→Tryz.pinned.checked.prog.wantsStandIn t=false:=by
 obtain rfl:f=11:=Option.some.inj ((show Tryz.prog.funcNamed "doublet/doubletlaw34.StreamNil"=some 11 by kernel_rfl).symm.trans hf) |>.symm
 obtain rfl:fn=Tryz.f11:=(Option.some.inj (Tryz.func11.symm.trans hfn)).symm
 refine⟨JD,fun j t ht=>?_⟩
 rw[Tryz.params11] at ht
 have hm:=Array.mem_of_getElem? ht
 simp only[List.mem_toArray,List.mem_cons,List.not_mem_nil,or_false] at hm
 subst hm
 ·exact(show Tryz.prog.wantsStandIn 35=false by kernel_rfl)
theorem StreamNil_holds:Rows.StreamNilCardSaid :=
 Claim7.holds_tied_plain_at .later [] _ _ _ _ KA (fun _ h=>by cases h) (by kernel_rfl) (fun _ h=>by cases h) streamNil_row_tie rfl ⟨rfl,rfl⟩ (by kernel_rfl) rfl JE KC
#print axioms StreamNil_holds
end Go.Proofs.YtbemonecmmnlcaaGreatDoor
