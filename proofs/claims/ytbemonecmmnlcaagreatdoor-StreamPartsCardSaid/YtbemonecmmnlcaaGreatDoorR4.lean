/- StreamParts: in whichever parts a text is fed, all that is told are its tokens. No condition. The texts of Q4, in few letters (mini.py). -/
import Derived.Test.YtbemonecmmnlcaaGreatDoorR3
import Derived.Test.YtbemonecmmnlcaaGreatDoorM1
set_option linter.unusedVariables false
set_option linter.unusedSimpArgs false
set_option maxRecDepth 20000
set_option maxHeartbeats 6400000
namespace Go.Proofs.YtbemonecmmnlcaaGreatDoor
open Go.RowKit Go.ChangeShapes Go.WideShapes Go.ChangeAt
theorem abL(L:List (List UInt8)):∀ k,(L.take k).flatten.length≤total L:=by
 induction L with
 | nil=>intro k;simp
 | cons x r ih =>
  intro k
  have e:total (x::r)=x.length+total r:=by simp[total]
  cases k with
  | zero=>simp
  | succ k=>have:=ih k;rw[List.take_succ_cons,List.flatten_cons,List.length_append,e];omega
theorem abp.lens{w:World}{sb top vb n:Nat}{V:au}{D:aF}{w0 wr:World}{X:jH}{g:Option Nat}{acc:List (Int×Nat×Nat)}{va vw:Value}{W:List UInt8}(h:abp w sb top vb n V D w0 wr X g acc va vw W):acc.length≤W.length+1∧X.at_+X.held.length≤W.length:=by
 have h1:=h.acs [] (fun _=>rfl)
 have h2:=abv D (W++[]) ((W++[]).length+1) 0
 rw[h1] at h2
 simp only[List.length_append,List.append_nil] at h2
 have h3:=h.rel.len
 have h4:=h.rel.le
 refine⟨by omega,?_⟩
 rw[h3]
 split <;> omega
theorem abp.text{w:World}{sb top vb n:Nat}{V:au}{D:aF}{w0 w5 w6:World}{Y:jH}{g:Option Nat}{acc:List (Int×Nat×Nat)}{va vw:Value}{W W':List UInt8}{a':Option Addr}{n' c':Nat}(hlt:sb<top)(htop:w.heap.size≤top)(hS:mG sb top vb n V D w0 w5 Y g)(hgl:∀ q,g=some q→q<w5.heap.size∧top≤q)(htx:Own w5 top 5 1 bT vw W)
  (hd:∀ q,g=some q→va.ownBlock≠some q∧vw.ownBlock≠some q) (hB:Below w.heap.size w w5) (hall:Own w5 top 61 3 AA va acc) (hR:yE D Y W') (hA:Qi D Y W' acc) (ho:Own w6 top 5 1 bT (.slice a' n' c') W') (hg:w5.grownBy w6 vw.ownBlock) (hf:(Value.slice a' n' c').ownBlock=vw.ownBlock∨(Value.slice a' n' c').ownBlock=some w5.heap.size) :
  abp w sb top vb n V D w0 w6 Y g acc va (.slice a' n' c') W':=by
 have htv:∀ q,vw.ownBlock=some q→top≤q∧q<w5.heap.size:=fun q e=>htx.bY q e
 refine⟨hS.lt hlt hg.size fun b hb hc=>hg.block b hb fun e=>?_,fun q e=>⟨Nat.lt_of_lt_of_le (hgl q e).1 hg.size,(hgl q e).2⟩,hR,hA,hall.Ez hg fun k h1 h2=>?_,ho,fun q e=>⟨(hd q e).1,fun e2=>?_⟩,⟨hg.os.trans hB.os,hg.tape.trans hB.tape,hg.output.trans hB.output,Nat.le_trans hB.size hg.size,fun b hb=>(hg.block b (by have:=hB.size;omega) fun e=>by have:=htv b e.symm;omega).trans (hB.block b hb)⟩⟩
 ·rcases hc with hc | hc
  ·have:=htv b e.symm;omega
  ·exact(hd b hc).2 e.symm
 ·obtain⟨_,c1,b1⟩:=hall.block k h1
  obtain⟨_,c2,b2⟩:=htx.block k h2
  exact absurd (b1.jC b2) (by decide)
 ·rcases hf with hf | hf
  ·exact(hd q e).2 (hf▸e2)
  ·rw[hf] at e2
   have:=(hgl q e).1
   have:=Option.some.inj e2
   omega
theorem af6(V:au)(D:aF)(w:World)(v:Value)(h:kJ w V D)(hl:∀ x∈D.names,x.length≤9223372036854775807)(hr:o9 D=false)(hT:Tab w)(hM:zQ w) :
  Calls Tryz.prog 12 #[.agg V.cells,v] w (bV w (.bool true)):=by
 have hx:=Box.new w V.cells 27
 have hb0:=aj w (.cells V.cells 27)
 have HK:=ah (fun u (hu:Below w.heap.size w u)=>adD u (hT.kept hu) (hM.kept hu))
 have H1:=ah (fun u (hu:Below w.heap.size w u)=>afw V D u (h.kept hu) hl hr)
 clear h hl hr hT hM
 go_enter Tryz.func12,Tryz.ntmps12
 go_wp2_with (first | (refine dL (by rfl) 27 _ rfl w.heap.size rfl _ _ _ _ hx Tryz.underlying27 rfl (bU _) ?_) | (go_at_call 39;go_must (refine(H1.out _ hb0).mono ?_;rintro e w2 ⟨rfl,hb2⟩;have hB2:=hb0.trans (hb2.mono hb0.size))) | (go_at_call 42;go_must (refine(HK.out _ hB2).mono ?_;rintro e w5 ⟨rfl,hb5⟩;have dw:=hB2.trans (hb5.mono hB2.size))))
 go_ret
 exact⟨rfl,dw⟩
theorem ae8(V:au)(D:aF)(w:World)(a:Option Addr)(n c:Nat)(L:List (List UInt8))(h:kJ w V D)(hl:∀ x∈D.names,x.length≤9223372036854775807)(hr:o9 D=true)(hL:abj w a n c L)(hq:∀ x∈L,x.length≤140737488351232)(hT:Tab w)(hM:zQ w)(hbig:200<n∨200<total L) :
  Calls Tryz.prog 12 #[.agg V.cells,.slice a n c] w (bV w (.bool true)):=by
 have hx:=Box.new w V.cells 27
 have hb0:=aj w (.cells V.cells 27)
 have HK:=ah (fun u (hu:Below w.heap.size w u)=>adD u (hT.kept hu) (hM.kept hu))
 have H1:=ah (fun u (hu:Below w.heap.size w u)=>agF V D u (h.kept hu) hl hr)
 have H2:=ah (fun u (hu:Below w.heap.size w u)=>aeU a n c L 200 u (hL.kept hu) hq (by decide))
 clear h hl hr hT hM hL hq
 by_cases akz:200<n
 ·have hi:(200:Int)<(n:Int):=by omega
  go_enter Tryz.func12,Tryz.ntmps12
  go_wp2_with (first | (refine dL (by rfl) 27 _ rfl w.heap.size rfl _ _ _ _ hx Tryz.underlying27 rfl (bU _) ?_) | (go_at_call 39;go_must (refine(H1.out _ hb0).mono ?_;rintro e w2 ⟨sb,vb,U,wd,lb,lo,nb,no,rb,ro,rc,rfl,-,-,-,-,hb2⟩;have hB2:=hb0.trans (hb2.mono hb0.size))) | (go_at_call 42;go_must (refine(HK.out _ hB2).mono ?_;rintro e w5 ⟨rfl,hb5⟩;have dw:=hB2.trans (hb5.mono hB2.size))))
  go_ret
  exact⟨rfl,dw⟩
 ·have hi:¬ (200:Int)<(n:Int):=by omega
  have ht:200<total L:=by omega
  have H2:Hid (∀ u,Below w.heap.size w u→Calls Tryz.prog 41 #[.slice a n c,.int .i64 200] u fun e w'=>∃ s:Nat,e=.returned (.int .i64 s)∧Below u.heap.size u w'∧(200:Int)<(s:Int)):=ah fun u hu=>(H2.out u hu).mono (by
   rintro e w' ⟨s,rfl,hb,hs⟩
   have:=hs.2 ht
   exact⟨s,rfl,hb,by omega⟩)
  go_enter Tryz.func12,Tryz.ntmps12
  go_wp2_with (first | (refine dL (by rfl) 27 _ rfl w.heap.size rfl _ _ _ _ hx Tryz.underlying27 rfl (bU _) ?_) | (go_at_call 39;go_must (refine(H1.out _ hb0).mono ?_;rintro e w2 ⟨sb,vb,U,wd,lb,lo,nb,no,rb,ro,rc,rfl,-,-,-,-,hb2⟩;have hB2:=hb0.trans (hb2.mono hb0.size))) | (go_at_call 41;go_must (refine(H2.out _ hB2).mono ?_;rintro e w3 ⟨s,rfl,hb3,hs3⟩;have hB3:=hB2.trans (hb3.mono hB2.size))) | (go_at_call 42;go_must (refine(HK.out _ hB3).mono ?_;rintro e w5 ⟨rfl,hb5⟩;have dw:=hB3.trans (hb5.mono hB3.size))))
  go_ret
  exact⟨rfl,dw⟩
theorem ae9(V:au)(D:aF)(w:World)(a:Option Addr)(n c:Nat)(L:List (List UInt8))(h:kJ w V D)(hl:∀ x∈D.names,x.length≤9223372036854775807)(hr:o9 D=true)(hL:abj w a n c L)(hq:∀ x∈L,x.length≤140737488351232)(hT:Tab w)(hM:zQ w)(hn2:n≤200)(ht2:total L≤200) :
  Calls Tryz.prog 12 #[.agg V.cells,.slice a n c] w (bV w (.bool true)):=by
 have hx:=Box.new w V.cells 27
 have hb0:=aj w (.cells V.cells 27)
 have HK:=ah (fun u (hu:Below w.heap.size w u)=>adD u (hT.kept hu) (hM.kept hu))
 have H1:=ah (fun u (hu:Below w.heap.size w u)=>agF V D u (h.kept hu) hl hr)
 have H2:Hid (∀ u,Below w.heap.size w u→Calls Tryz.prog 41 #[.slice a n c,.int .i64 200] u fun e w'=>∃ s:Nat,e=.returned (.int .i64 s)∧Below u.heap.size u w'∧¬ (200:Int)<(s:Int)):=ah fun u hu=>(aeU a n c L 200 u (hL.kept hu) hq (by decide)).mono (by
  rintro e w' ⟨s,rfl,hb,hs⟩
  exact⟨s,rfl,hb,fun e=>by have:=hs.1 (by omega);omega⟩)
 have HMT:=ah (fun(u:World) (hu:Below w.heap.size w u) (t:List UInt8) (ta:Option Addr) (tn tc:Nat) (hs:ak u (.slice ta tn tc) 1 bT t) (htl:t.length≤1099511627776)=>afq V D t ta tn tc u (h.kept hu) hl hr hs htl)
 have hi:¬ (200:Int)<(n:Int):=by omega
 have HW:=ah (OW hr)
 have HL:=ah hL
 clear h hl hr hT hM hq hL
 go_enter Tryz.func12,Tryz.ntmps12
 go_wp2_with (first | (refine dL (by rfl) 27 _ rfl w.heap.size rfl _ _ _ _ hx Tryz.underlying27 rfl (bU _) ?_) | (go_at_call 39;go_must (refine(H1.out _ hb0).mono ?_;rintro e w2 ⟨sb,vb,U,wd,lb,lo,nb,no,rb,ro,rc,rfl,hsb,hlt,hMR,hSt,hb2⟩;have hB2:=hb0.trans (hb2.mono hb0.size);have hx2:=hx.kept hb2;have HMR:=ah hMR;have HST:=ah hSt;clear hMR hSt)) | (go_at_call 41;go_must (refine(H2.out _ hB2).mono ?_;rintro e w3 ⟨s,rfl,hb3,hs3⟩;have hB3:=hB2.trans (hb3.mono hB2.size);have hx3:=hx2.kept hb3)))
 obtain⟨hn,hnc,hc63,bL,oL,haL,hxL⟩:=HL.out.at_
 have ah8:=hB2.size
 have ah9:=hb3
 have ahC:=aj w3 (.cells #[] 61)
 have hal2:=aj (w3.alloc (.cells #[] 61)) (.cells #[] 5)
 have hal:=Later.trans _ _ _ ahC hal2
 have hs3:=hb3.size
 have afa:w.heap.size≤w2.heap.size:=ah8
 have afh:w.heap.size≤sb:=Nat.le_trans hb0.size hsb
 have akA:w.heap.size<sb:=by have h1:=hsb;rw[World.size_alloc] at h1;omega
 have Ah:abp w sb w2.heap.size vb D.label.length U D w2 ((w3.alloc (.cells #[] 61)).alloc (.cells #[] 5)) ⟨[],0,false,false⟩ none [] (.slice (some ⟨w3.heap.size,0,none⟩) 0 0) (.slice (some ⟨w3.heap.size+1,0,none⟩) 0 0) [] :=
  ⟨HST.out.kept hlt (Later.trans _ _ _ hb3 hal),fun q e=>(by cases e),⟨Nat.le_refl _,fun _=>⟨rfl,.inl rfl⟩,fun e=>(by cases e)⟩,fun Z _=>(by simp),(Own.empty w3 _ _ 3 AA hs3).kept hal2,Own.empty' (by simp) _ _ 1 bT (by simp;omega),fun q e=>(by cases e),hB3.trans (hal.mono hB3.size)⟩
 have hX0:=hx3.kept hal
 have HQ0:=ah Ah;have HX0:=ah hX0
 have HN:=ah hn;have HAL:=ah haL;have HXL:=ah hxL
 clear Ah hX0 hn haL hxL hal ahC hal2 hx3 hx2 hx hB3 hB2 hb3 hb2 hb0 ah9 H1 H2
 go_loopw [7,8,9] (fun v7 v8 v9 wr=>∃ (k:Nat) (X:jH) (g:Option Nat) (acc:List (Int×Nat×Nat)) (W:List UInt8) (sa ba:Option Addr) (ca cb:Nat),v7=.slice sa acc.length ca∧v8=.slice ba W.length cb∧v9=.int .i64 k∧k≤n∧X.en=false∧W=(L.take k).flatten∧abp w sb w2.heap.size vb D.label.length U D w2 wr X g acc (.slice sa acc.length ca) (.slice ba W.length cb) W∧Box wr w.heap.size V.cells 27) (fun _ _ v9 _=>n - (intOf v9).toNat)
 case atStart=>exact⟨0,_,none,[],[],_,_,0,0,rfl,rfl,rfl,Nat.zero_le _,rfl,by simp,HQ0.out,HX0.out⟩
 case round =>
  clear HQ0 HX0
  obtain⟨k,X,g,acc,W,sa,ba,ca,cb,rfl,rfl,rfl,hk,hen,hWk,hQ,hX⟩:=hrel
  have aiJ:=hQ.lens
  have hWl:W.length≤200:=by rw[hWk];exact Nat.le_trans (abL L k) ht2
  have htw:w2.heap.size≤wr.heap.size:=hQ.st.1.1
  by_cases hlt2:k<n
  ·have hkl:k<L.length:=by rw[←HN.out];exact hlt2
   have hki:(k:Int)<(n:Int):=by omega
   have hk0:(0:Int)≤(k:Int):=by omega
   obtain rfl:=HAL.out k hlt2
   obtain⟨a',c',hc0,hs0⟩:=HXL.out k hkl
   have hc1:=hc0 wr hQ.low
   have hbl:=World.block_lt_of_cell? wr _ hc1
   have hlk:(L[k]).length≤200:=by
    have h1:=abL L (k+1)
    rw[List.take_succ_eq_append_getElem hkl,List.flatten_append,List.length_append] at h1
    simp only[List.flatten_cons,List.flatten_nil,List.append_nil] at h1
    omega
   have ahD:W++L[k]=(L.take (k+1)).flatten:=by
    rw[List.take_succ_eq_append_getElem hkl,List.flatten_append,←hWk];simp
   have HWK:=ah ahD
   have hfd:=adz sb w2.heap.size vb U D w2 wr D.label.length wd lb lo nb no rb ro rc HMR.out HW.out hlt X g hQ.st (fun q e=>(hQ.gl q e).1) a' (L[k]).length c' L[k] (hs0.kept hQ.low) (by omega)
   obtain⟨-,-,abM,aby⟩:=hQ.rel.feed HW.out hen L[k]
   have abz:=hQ.acs.feed HW.out hQ.rel hen L[k]
   have HC0:=ah hc0;have Xj:=ah hs0
   generalize wY D X L[k]=q at *
   obtain⟨toks,Y⟩:=q
   dsimp only at abM aby abz
   have htl:toks.length≤1000:=by
    have h1:=abz [] (fun _=>rfl)
    have h2:=abv D (W++L[k]++[]) ((W++L[k]++[]).length+1) 0
    rw[h1] at h2
    simp only[List.length_append,List.append_nil] at h2
    omega
   have HFD:=ah hfd;have HQ:=ah hQ;have HX:=ah hX;have D6:=ah aby;have HAC:=ah abz;have HEN:=ah abM
   generalize L[k]=b at *
   clear hfd hQ hX aby abz abM hen hWk ahD hc0 hs0
   go_wp2_with (first | (go_at_call 46;go_must (refine HFD.out.mono ?_;rintro e w4 ⟨a4,c4,g4,rfl,qL,hk4,hS4,hg4⟩;have abH:=HQ.out.all.dh fun q e=>hk4.block q (HQ.out.all.bY q e).2 (by have:=(HQ.out.all.bY q e).1;omega) (fun e2=>(HQ.out.mO q e2).1 e);have aep:=qL.slice YB;have Bl:=hk4.size)) | (at_builtin;refine abk rfl _ _ 55 rfl aa3 YB rfl abH a4 toks.length c4 rfl aep (by simp[maxLen];omega) (by omega) (by omega) ?_;go_must (intro a5 c5 w5 zi hg5 hf5;obtain⟨hS5,anF,ab5,hd5,dw⟩:=HQ.out.told hlt afh hk4 hS4 hg4 D6.out HAC.out zi hg5 hf5;have hc5:=HC0.out w5 dw;have anq:=World.block_lt_of_cell? w5 _ hc5;have ahE:=Xj.out.kept dw;have fU:Box w4 w.heap.size V.cells 27:=(hk4.block _ HX.out.lt (by omega) (fun e=>by have:=(HQ.out.gl _ e).2;omega)).trans HX.out;have Ai:Box w5 w.heap.size V.cells 27:=(hg5.block _ fU.lt (fun e=>by have:=(abH.bY _ e.symm).1;omega)).trans fU;have aia:w2.heap.size≤w5.heap.size:=hS5.1.1;have af8:=ah hS5;have aer:=ah anF;have ahF:=ah ab5;have HD5:=ah hd5;have qR:=ah dw;have HO5:=ah zi;have HX5:=ah Ai;clear hS5 anF hd5 dw zi Ai fU abH aep qL hk4 hS4 hg4 hg5 hf5 hc1 hbl)) | (at_builtin;go_must (refine abk rfl _ _ 35 rfl aa6 uP rfl ab5 a' b.length c' rfl ahE (by simp[maxLen];omega) (by omega) aia ?_;intro a6 c6 w6 wI hg6 hf6;have HG6:=ah hg6;have HF6:=ah hf6;have HO6:=ah wI;clear ab5 ahE hg6 hf6 wI)))
   have hl6:(W++b).length=W.length+b.length:=List.length_append
   have hla:(acc++toks).length=acc.length+toks.length:=List.length_append
   have hw1:IntKind.i64.wrap ((k:Int)+1)=((k+1:Nat):Int):=by rw[IntWalk.i64_in _ (by omega)];omega
   have hfin:abp w sb w2.heap.size vb D.label.length U D w2 w6 Y g4 (acc++toks) (.slice a5 (acc.length+toks.length) c5) (.slice a6 (W.length+b.length) c6) (W++b):=abp.text hlt afa af8.out aer.out ahF.out HD5.out qR.out HO5.out D6.out HAC.out HO6.out HG6.out HF6.out
   have rV:Box w6 w.heap.size V.cells 27:=(HG6.out.block _ HX5.out.lt (fun e=>by have:=(ahF.out.bY _ e.symm).1;omega)).trans HX5.out
   rw[←hl6,←hla] at hfin
   exact⟨⟨k+1,Y,g4,acc++toks,W++b,a5,a6,c5,c6,by rw[hla],by rw[hl6],by push_cast;rfl,hlt2,HEN.out,HWK.out,hfin,rV⟩,by simp[intOf];omega⟩
  ·obtain rfl:k=n:=by omega
   have hki:¬ (k:Int)<(k:Int):=by omega
   have aib:=hen
   obtain⟨-,-,abM,aby⟩:=hQ.rel.fin hen
   have abz:=Qi.fin HW.out hQ.rel hQ.acs hen
   have hfe:=afr sb w2.heap.size vb U D w2 wr D.label.length wd lb lo nb no rb ro rc HMR.out HW.out hlt X g hQ.st (fun q e=>(hQ.gl q e).1) (by omega) (fun e=>(hQ.rel.st e).1)
   generalize G7 D X=q at *
   obtain⟨toks,Y⟩:=q
   dsimp only at abM aby abz
   obtain⟨hdn,hsk,ahn⟩:=Qi.done aby abz abM
   have htk:ab2 D W=(acc++toks,Y.at_):=hdn
   have htl:toks.length≤1000:=by
    have h2:=abv D W (W.length+1) 0
    rw[hdn] at h2
    simp only[List.length_append] at h2
    omega
   obtain⟨bs,hbs⟩:∃ b,decide (Y.at_<W.length)=b:=⟨_,rfl⟩
   have hbi:decide ((Y.at_:Int)<(W.length:Int))=bs:=by rw[←hbs,decide_eq_decide];omega
   rw[hbs] at hsk
   have hbb:(bs==bs)=true:=by simp
   have SH:((Y.at_:Int)==(Y.at_:Int))=true:=by simp
   have hHL:Y.at_≤200:=by have:=aby.le;omega
   have wF:=ah htk;have HSK:=ah hsk;have HHE:=ah ahn;have HEN:=ah abM
   have HFE:=ah hfe;have HQ:=ah hQ;have HX:=ah hX;have D6:=ah aby;have HAC:=ah abz
   clear hfe hQ hX aby abz abM hen aib hWk hdn hsk ahn htk
   go_wp2_with (first | (go_at_call 43;go_must (refine HFE.out.mono ?_;rintro e w4 ⟨a4,c4,g4,rfl,qL,hk4,hS4,hg4⟩;have abH:=HQ.out.all.dh fun q e=>hk4.block q (HQ.out.all.bY q e).2 (by have:=(HQ.out.all.bY q e).1;omega) (fun e2=>(HQ.out.mO q e2).1 e);have aep:=qL.slice YB;have Bl:=hk4.size)) | (at_builtin;refine abk rfl _ _ 55 rfl aa3 YB rfl abH a4 toks.length c4 rfl aep (by simp[maxLen];omega) (by omega) (by omega) ?_;go_must (intro a5 c5 w5 zi hg5 hf5;obtain⟨hS5,anF,ab5,hd5,dw⟩:=HQ.out.told hlt afh hk4 hS4 hg4 D6.out HAC.out zi hg5 hf5;have fU:Box w4 w.heap.size V.cells 27:=(hk4.block _ HX.out.lt (by omega) (fun e=>by have:=(HQ.out.gl _ e).2;omega)).trans HX.out;have Ai:Box w5 w.heap.size V.cells 27:=(hg5.block _ fU.lt (fun e=>by have:=(abH.bY _ e.symm).1;omega)).trans fU;have af8:=ah hS5;have aer:=ah anF;have hwt:=ab5.slice uP;have qR:=ah dw;have HO5:=ah (zi.slice YB);clear hS5 anF hd5 dw zi fU abH aep qL hk4 hS4 hg4 hg5 hf5 ab5)) | (refine dL (by rfl) 27 _ rfl w.heap.size rfl _ _ _ _ Ai Tryz.underlying27 rfl (bU _) ?_) | (go_at_call 53;go_must (refine(HMT.out _ qR.out W ba W.length cb hwt (by omega)).mono ?_;rw[wF.out];rintro e w6 ⟨a6,c6,rfl,wI,hb6⟩;dsimp only)))
   have hl12:(acc++toks).length=acc.length+toks.length:=List.length_append
   have hs6:=wI.slice YB
   rw[show((acc++toks,Y.at_):List (Int×Nat×Nat)×Nat).1.length=acc.length+toks.length from hl12] at hs6
   have uo:=ah (ae6 ((acc++toks).map aeh) a5 a6 _ _ c5 c6 w6 (HO5.out.kept hb6).aeh hs6.aeh)
   have Lu:=ah (qR.out.trans (hb6.mono qR.out.size))
   have afi:Hid (∀ u,Below w6.heap.size w6 u→mG sb w2.heap.size vb D.label.length U D w2 u Y g4):=ah fun u hu=>af8.out.kept hlt (Later.trans _ _ _ hb6 hu)
   have aic:Hid (∀ u,Below w6.heap.size w6 u→∀ q,g4=some q→q<u.heap.size):=ah fun u hu q e=>Nat.lt_of_lt_of_le (aer.out q e).1 (Nat.le_trans hb6.size hu.size)
   have HLB:Hid (∀ u,Below w6.heap.size w6 u→∀ g' u',ni sb g4 u u'→mG sb w2.heap.size vb D.label.length U D w2 u' Y g'→Below w.heap.size w u'):=ah fun u hu g' u' hk _=>hk.toBelow (Lu.out.trans (hu.mono Lu.out.size)) afh (fun q e=>Nat.le_trans afa (aer.out q e).2)
   have HSA:=ah (fun u (hu:Below w6.heap.size w6 u)=>ahk sb _ vb _ U D w2 u Y g4 (afi.out u hu))
   have HSH:Hid (∀ u,Below w6.heap.size w6 u→Calls Tryz.prog 51 #[.pointer (some ⟨sb,0,none⟩)] u (bV u (.int .i64 0))):=ah fun u hu=>by
    have:=ahs sb _ vb _ U D w2 u Y g4 (afi.out u hu)
    rwa[HHE.out] at this
   have Fg:Hid (∀ u,Below w6.heap.size w6 u→Calls Tryz.prog 49 #[.pointer (some ⟨sb,0,none⟩)] u (bV u (.bool bs))):=ah fun u hu=>by
    have:=aa8 sb _ vb _ U D w2 u Y g4 (afi.out u hu)
    rwa[HSK.out] at this
   clear wI hs6 hb6 HO5 qR hwt Ai HFE HQ HX hl12
   go_wp2_with (first | (go_at_call 45;go_must (refine uo.out.mono ?_;rintro e w7 ⟨rfl,hb7⟩)) | (go_at_call 48;go_must (refine(HSA.out _ hb7).mono ?_;rintro e w8 ⟨rfl,hb8⟩;have hc8:=Later.trans _ _ _ hb7 hb8)) | (go_at_call 49;go_must (refine(Fg.out _ hc8).mono ?_;rintro e w9 ⟨rfl,P8⟩;have hc9:=Later.trans _ _ _ hc8 P8)) | (go_at_call 51;go_must (refine(HSH.out _ hc9).mono ?_;rintro e wa ⟨rfl,hba⟩;have hca:=Later.trans _ _ _ hc9 hba;obtain⟨wt,kt,ht,hbt,_⟩:=Tf [97] wa (by decide);have kt':(convert 35 35 (.slice (some ⟨wa.heap.size,0,none⟩) 1 1)).run Tryz.prog (wa.alloc (.cells #[.int .u8 97] 5))=.ok (.slice (some ⟨wa.heap.size,0,none⟩) 1 1) wt:=kt;have hct:=Later.trans _ _ _ hca hbt;clear kt)) | (go_at_call 46;go_must (refine(VB sb _ vb _ U D w2 wt Y g4 _ (afi.out wt hct) (aic.out wt hct) (.inl HEN.out)).mono ?_;rintro e wf ⟨af,cf,gf,rfl,_,hkf,hSf,hgf⟩)))
   have hBf:Below w.heap.size w wf:=HLB.out wt hct gf wf hkf hSf
   have afl:w.heap.size≤wt.heap.size:=Nat.le_trans Lu.out.size hct.size
   have hE2:=afr sb _ vb U D w2 wf D.label.length wd lb lo nb no rb ro rc HMR.out HW.out hlt Y gf hSf (fun q e=>(hgf q e).2) (by rw[HHE.out];simp;omega) (fun _=>HHE.out)
   rw[show G7 D Y=([],Y) by unfold G7;rw[if_pos HEN.out]] at hE2
   have hgw:∀ q,gf=some q→w.heap.size≤q:=fun q e=>by
    rcases (hgf q e).1 with h1 | h1
    ·exact Nat.le_trans afa (aer.out q h1).2
    ·exact Nat.le_trans afl h1
   refine hE2.mono ?_
   rintro e wg ⟨ag,cg,gg,rfl,_,hkg,hSg,hgg⟩
   have hBg:=hkg.toBelow hBf afh hgw
   have HAg:=ah (ahk sb _ vb _ U D w2 wg Y gg hSg)
   clear hE2 hkf hSf hgf hkg hSg hgg hgw hct hca hc9 hc8 kt' ht hbt
   go_wp2_with (first | (go_at_call 48;go_must (refine HAg.out.mono ?_;rintro e wh ⟨rfl,hbh⟩;have hBh:=hBg.trans (hbh.mono hBg.size))) | (go_at_call 42;go_must (refine(HK.out _ hBh).mono ?_;rintro e wk ⟨rfl,hbk⟩;have X3:=hBh.trans (hbk.mono hBh.size))))
   go_ret
   exact⟨rfl,X3⟩
theorem ab3(V:au)(D:aF)(w:World)(a:Option Addr)(n c:Nat)(L:List (List UInt8))(h:kJ w V D)(hl:∀ x∈D.names,x.length≤9223372036854775807)(hL:abj w a n c L)(hq:∀ x∈L,x.length≤140737488351232)(hT:Tab w)(hM:zQ w) :
  Calls Tryz.prog 12 #[.agg V.cells,.slice a n c] w (bV w (.bool true)):=by
 cases hr:o9 D with
 | false=>exact af6 V D w _ h hl hr hT hM
 | true =>
  by_cases hbig:200<n∨200<total L
  ·exact ae8 V D w a n c L h hl hr hL hq hT hM hbig
  ·exact ae9 V D w a n c L h hl hr hL hq hT hM (by omega) (by omega)
theorem abO{W:World}(h:laidMetH Tryz.prog Rows.streamPartsRow.laid W):Tab W:=Oc (Lib.tabIs_of_head (zs:=Lib.deBruijn64tab.map fun(x:Nat)=>(x:Int)) (rest:=[]) gTab Zi Tryz.underlying358 Tryz.underlying5 (by kernel_rfl) (by kernel_rfl) h)
set_option maxRecDepth 100000 in
theorem abI(H:Type)(enc:TypeId×Value→H)(W:World)(base:Nat)(args:Array Value)(ds gs:List (DataW H))(before:List MemPlace)
  (hval0:∀ (j:Nat) t v,Tryz.f12.params[j]?=some t→args[j]?=some v→Value.okWide Tryz.prog W .any base t v)
  (hW:DataW.Whole enc Tryz.prog Tryz.f12.params.toList Rows.streamPartsSpec.vars false W args.toList ds gs before) (hwt:(DataW.weightsEach Tryz.prog (Tryz.f12.params.toList++(OpenSpec.ofChange Rows.streamPartsSpec).bare.plain.varTypes Tryz.prog) (ds++gs)).all (·≤reachBytes)=true) (hsh:W.ShapedOpen Tryz.prog) (hL:laidMetH Tryz.prog Rows.streamPartsRow.laid W) :
  Calls Tryz.prog 12 args W fun e W'=>∃ v,e=.returned v∧Rows.streamPartsSpec.post enc Tryz.prog Tryz.f12 false true false false W args v W':=by
 have hval:∀ (j:Nat) t v,Tryz.f12.params[j]?=some t→args[j]?=some v→Value.okWide Tryz.prog W .any base t v:=hval0
 have hW':=hW
 have hT:=abO hL
 have hM:zQ W:=Go.Proofs.cell_of_shapedOpen_int (zero:=#[.int .i64 0]) (t:=3) hsh (of_decide_eq_true (by kernel_rfl)) (by kernel_rfl) rfl (by kernel_rfl) (by kernel_rfl) Tryz.underlying3
 obtain⟨p,q,hA0,hV,rfl,hfz,hnd⟩:=hW
 have hA:DataW.TrodAll enc Tryz.prog W 0 (fun _=>true) true Tryz.f12.params.toList args.toList ds p:=hA0
 rw[Tryz.params12] at hA hval
 obtain⟨v0,vs0,d0,ds0,p0,q0,hargs,rfl,rfl,h00,r0⟩:=trodAll_cons hA
 obtain⟨v1,vs1,d1,ds1,p1,q1,rfl,rfl,rfl,h01,r1⟩:=trodAll_cons r0
 obtain⟨rfl,rfl,rfl⟩:=trodAll_nil r1
 obtain rfl:args=#[v0,v1]:=by cases args;simp_all
 obtain⟨rfl,rfl⟩:=trodVars_none hV
 have k00:=h00
 have lt0:∀ x∈p0,x.block<W.heap.size:=by obtain⟨m,hm⟩:=k00;exact DataW.trod_lt m _ _ _ hm
 have k01:=h01
 have lt1:∀ x∈p1,x.block<W.heap.size:=by obtain⟨m,hm⟩:=k01;exact DataW.trod_lt m _ _ _ hm
 have afl:(DataW.weightsEach Tryz.prog [27,57] [d0,d1]).all (·≤reachBytes)=true:=hwt
 simp only[DataW.weightsEach,List.all_append,Bool.and_eq_true,List.all_nil,and_true,List.append_nil] at afl
 obtain⟨hw0,hw1⟩:=afl
 obtain⟨Vd,d,rfl,Rd,ofd,nmd,wdd,lbd,nxd⟩:∃ (V:au) (D:aF),v0=.agg V.cells∧kJ W V D∧(∀ b,V.of b<256)∧(∀ x∈D.names,x.length≤9223372036854775807)∧(Lit.int .i64 D.width).wf=true∧(∀ x∈D.label,(Lit.int .i64 x).wf=true)∧∀ r∈D.next,∀ x∈r,(Lit.int .i64 x).wf=true:=by
  obtain⟨fuel,hfu⟩:=h00
  obtain⟨cs,hcs,_⟩:=okWide_struct Tryz.underlying27 (hval 0 27 v0 rfl rfl)
  subst hcs
  obtain⟨fs,N⟩:=aht
  obtain⟨V,D,h2,h3⟩:=afF N hfu
  exact⟨V,D,by rw[show cs=V.cells from Array.ext' h2],h3⟩
 obtain⟨a_l,len1,aho,rfl⟩:=okWide_slice Tryz.underlying57 (hval 1 57 v1 rfl rfl)
 obtain⟨l,hl,hql⟩:∃ L:List (List UInt8),abj W a_l len1 aho L∧∀ x∈L,x.length≤140737488351232:=by
  obtain⟨fuel,hfu⟩:=k01
  exact aeI Tryz.underlying57 Tryz.underlying35 Tryz.underlying5 (by kernel_rfl) (by kernel_rfl) (by kernel_rfl) hfu hw1
 clear hA0 hval0
 refine(ab3 Vd d W a_l len1 aho l Rd nmd hl hql hT hM).mono fun e W' ⟨he,bel⟩=>?_
 subst he
 exact⟨_,rfl,_,_,_,[],_,[],hW',trodAll_mk1 (shut_bool Tryz.underlying4 _),(trodAll_cons_mk (Below.trod laidOut (by kernel_rfl) (of_decide_eq_true (by kernel_rfl)) k00 bel lt0) (trodAll_cons_mk (Below.trod laidOut (by kernel_rfl) (of_decide_eq_true (by kernel_rfl)) k01 bel lt1) trodAll_mk0)),rfl,bel.frame _,fun h=>by cases h⟩
theorem abK(os:Os):laidMet Tryz.prog Rows.streamPartsRow.laid ((laidWorld os).forCall (fun _ _=>0) ⟨#[],#[aeV,.slice none 0 0],[]⟩).memory :=
 laidMet_of_run' 8 (by kernel_rfl) (by kernel_rfl)
theorem abR(os:Os){H:Type}(enc:TypeId×Value→H):∃ places,DataW.whole enc Tryz.prog ((laidWorld os).forCall (fun _ _=>0) ⟨#[],#[aeV,.slice none 0 0],[]⟩).memory Tryz.f12.params.toList Rows.streamPartsSpec.vars false (#[aeV,.slice none 0 0]:Array Value).toList 8=some ([.agg [.agg (List.replicate 256 (.lit (.int .u8 0))),.lit (.int .i64 0),.nil,.nil,.nil],.nil],[],places) :=
 ⟨[],by kernel_rfl⟩
set_option maxRecDepth 100000 in
theorem abN(os:Os)(started:os.Started)(H:Type)(enc:TypeId×Value→H)(F:Stop.Interp) :
  ReturnsInHanded {} Tryz.checked os 12 .any ((OpenSpec.ofChange Rows.streamPartsSpec).preRow enc Tryz.prog Tryz.f12 Rows.streamPartsRow.domain false Rows.streamPartsRow.laid) (((OpenSpec.ofChange Rows.streamPartsSpec).at F).post enc Tryz.prog Tryz.f12 false true false false):=by
 obtain⟨places,hx⟩:=abR os enc
 refine returnsInHanded_of_row (C:=Tryz.checked) (s:=OpenSpec.ofChange Rows.streamPartsSpec) own started (by kernel_rfl) Tryz.func12
  (witness_row_at (enc:=enc) (C:=Tryz.checked) false (laidWorld os) #[aeV,.slice none 0 0] rfl (by kernel_rfl) (by kernel_rfl) (by kernel_rfl)
   (OpenSpec.preRow_of_cond 8 hx (by kernel_rfl) (fun k hk=>by cases hk) (by kernel_rfl) (abK os))) ?_
 intro W base args ds gs before hval hW _ _ hwt hL hsh _
 exact abI H enc W base args ds gs before hval hW hwt hsh hL
theorem ab6:Tryz.pinned.checked.prog.inPlace 12=Rows.streamPartsRow.inPlace:=by kernel_rfl
theorem acu:Tryz.pinned.checked.prog.unfollowed 12=Rows.streamPartsRow.unfollowed:=by kernel_rfl
theorem acv:Tryz.pinned.checked.prog.recurses 12=Rows.streamPartsRow.recurses:=by kernel_rfl
theorem acw:Tryz.pinned.checked.prog.varsNamed 12=Rows.streamPartsRow.named:=by kernel_rfl
theorem acz:Tryz.pinned.checked.prog.plainKeys=Rows.streamPartsRow.plainKeys:=by kernel_rfl
theorem acA:Tryz.pinned.checked.prog.liftsFinal=Rows.streamPartsRow.lifted:=by kernel_rfl
theorem acB:joinedFacts Tryz.pinned.checked.prog 12 Tryz.f12 ((OpenSpec.ofChange Rows.streamPartsSpec).bare) Rows.streamPartsRow=true:=by
 unfold joinedFacts
 rw[ab6,acu,acv,acw,acz,acA,ag1,ad1,ad2,ad3]
 kernel_rfl
theorem acC:Func.isWrapper Tryz.pinned.checked.prog Tryz.f12 Rows.streamPartsRow.wrapper Rows.streamPartsRow.mainSum:=by unfold Func.isWrapper;first | (rw[if_pos (by decide +kernel)];kernel_rfl) | (rw[if_neg (by decide +kernel)];exact⟨rfl,rfl⟩)
theorem abY:Rows.StreamPartsSaid :=
 OpenClaim.holds_of_cond 12 Tryz.f12 rfl rfl rfl rfl rfl rfl rfl ⟨rfl,rfl,rfl,rfl,rfl⟩ rfl rfl rfl rfl rfl (by kernel_rfl) Tryz.func12 acB
  (of_decide_eq_true (by kernel_rfl)) acC
  (fun os started H enc _ F=>by rw[OpenClaim.pre_eq_preRow];exact abN os started H enc F)
theorem abZ:false=Rows.streamPartsRow.goesBy Tryz.pinned.checked.prog:=by kernel_rfl
theorem abT:true=Tryz.pinned.checked.prog.looks []:=by kernel_rfl
theorem abU (f:FuncId) (fn:Func) (hf:Tryz.pinned.checked.prog.funcNamed "doublet/doubletlaw34.StreamParts"=some f) (hfn:Tryz.pinned.checked.prog.funcs[f]?=some fn) :
  true=Tryz.pinned.checked.prog.looks []∧∀ (j:Nat) t,fn.params[j]?=some t→Tryz.pinned.checked.prog.wantsStandIn t=false:=by
 obtain rfl:f=12:=Option.some.inj ((show Tryz.prog.funcNamed "doublet/doubletlaw34.StreamParts"=some 12 by kernel_rfl).symm.trans hf) |>.symm
 obtain rfl:fn=Tryz.f12:=(Option.some.inj (Tryz.func12.symm.trans hfn)).symm
 refine⟨abT,fun j t ht=>?_⟩
 rw[Tryz.params12] at ht
 have hm:=Array.mem_of_getElem? ht
 simp only[List.mem_toArray,List.mem_cons,List.not_mem_nil,or_false] at hm
 rcases hm with rfl | rfl
 ·exact(show Tryz.prog.wantsStandIn 27=false by kernel_rfl)
 ·exact(show Tryz.prog.wantsStandIn 57=false by kernel_rfl)
theorem StreamParts_holds:Rows.StreamPartsCardSaid :=
 Claim7.holds_tied_plain_at .later [] _ _ _ _ abY (fun _ h=>by cases h) (by kernel_rfl) (fun _ h=>by cases h) streamParts_row_tie rfl ⟨rfl,rfl⟩ (by kernel_rfl) rfl abU abZ
#print axioms StreamParts_holds
end Go.Proofs.YtbemonecmmnlcaaGreatDoor
