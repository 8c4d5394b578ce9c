/- The texts of N31, in few letters (mini.py). -/
import Derived.Test.YtengfapcaaacaaaGreatDoorM30
set_option linter.unusedVariables false
set_option linter.unusedSimpArgs false
set_option maxRecDepth 20000
set_option maxHeartbeats 3200000
namespace Go.Proofs.YtengfapcaaacaaaGreatDoor
open Go.RowKit
theorem aaZ{P:Program}{ops:Array Oper}{Q:Exit→Act→World→Prop}{md:Region.Mode}{t:Nat}{R:World→World→Prop}{i j k:Nat}{oi oj ok:Oper}{fuel:Nat}{listed:Array Bool}{a:Act}{w:World}(hr:Region.ready md ops listed=[i,j,k])(hi:ops[i]?=some oi)(hj:ops[j]?=some oj)(hk:ops[k]?=some ok)
  (h1:∀ w1,R w w1→∀ K:Act→World→Prop,Shut (∀ a' w',(i≠t→R w1 w')→kQ P md ops Q R t fuel (listed.setIfInBounds i true) a' w'→K a' w')→if Region.wanted oi (yielded ops a.tmps)=true then Oper.wp P oi a w1 K Q else K (a.put oi.dst undef) w1)
  (h2:∀ w1,R w w1→∀ K:Act→World→Prop,Shut (∀ a' w',(j≠t→R w1 w')→kQ P md ops Q R t fuel (listed.setIfInBounds j true) a' w'→K a' w')→if Region.wanted oj (yielded ops a.tmps)=true then Oper.wp P oj a w1 K Q else K (a.put oj.dst undef) w1)
  (h3:∀ w1,R w w1→∀ K:Act→World→Prop,Shut (∀ a' w',(k≠t→R w1 w')→kQ P md ops Q R t fuel (listed.setIfInBounds k true) a' w'→K a' w')→if Region.wanted ok (yielded ops a.tmps)=true then Oper.wp P ok a w1 K Q else K (a.put ok.dst undef) w1) :
  kQ P md ops Q R t (fuel+1) listed a w:=fun w1 hw1=>by
 refine⟨fun h0=>(by rw[hr] at h0;cases h0),fun x hx=>?_⟩
 rw[hr,List.mem_cons,List.mem_cons,List.mem_singleton] at hx
 rcases hx with rfl | rfl | rfl
 ·exact wpOp_step hi (fun K' hK=>h1 w1 hw1 K' (fun a' w' k1 k2=>hK a' w' ⟨k1,k2⟩))
 ·exact wpOp_step hj (fun K' hK=>h2 w1 hw1 K' (fun a' w' k1 k2=>hK a' w' ⟨k1,k2⟩))
 ·exact wpOp_step hk (fun K' hK=>h3 w1 hw1 K' (fun a' w' k1 k2=>hK a' w' ⟨k1,k2⟩))
theorem ak.aa0{α:Type}{w w':World}{v:Value}{size:Nat}{enc:α→List Value}{xs:List α}(hs:ak w v size enc xs)(hk:∀ (b:Nat) (ob:Obj),w.heap[b]?=some ob→ob.isCells=true→w'.heap[b]?=some ob):ak w' v size enc xs:=by
 obtain⟨a,b,o,cap,hv,hl,hc,ha,hx⟩:=hs
 refine⟨a,b,o,cap,hv,hl,hc,ha,fun i hi j u hu=>?_⟩
 have hv:=hx i hi j u hu
 obtain⟨ob,ho,hcs⟩:=cells_of_cell hv
 rw[←hv]
 exact World.cell?_of_block ((hk b ob ho hcs).trans ho.symm)
theorem EX{w:World}{mb b:Nat}{kl:List (Int×Value)}(hm:aJ w mb jf kl){ob:Obj}(h:w.heap[b]?=some ob)(hc:ob.isCells=true):b≠mb:=by
 rintro rfl
 obtain⟨es,c,h2,_⟩:=hm
 rw[h2] at h
 cases h
 cases hc
def iw(ls:List (Nat×Nat))(s:Nat):List Nat:=(ls.filter fun l=>l.1==s).map (·.2)
theorem Vb(ls:List (Nat×Nat))(k:Nat)(h:k<ls.length)(t:Nat):iw (ls.take (k+1)) t=if t=ls[k].1 then iw (ls.take k) ls[k].1++[ls[k].2] else iw (ls.take k) t:=by
 unfold iw
 rw[List.take_succ_eq_append_getElem h,List.filter_append,List.map_append]
 by_cases e:t=ls[k].1
 ·rw[if_pos e,e];simp
 ·have e2:¬ ls[k].1=t:=fun h=>e h.symm
  rw[if_neg e];simp[e2]
theorem Yd(ls:List (Nat×Nat))(s k:Nat):(iw (ls.take k) s).length≤ls.length:=by
 unfold iw;rw[List.length_map];exact Nat.le_trans (List.length_filter_le _ _) (List.length_take_le' _ _)
def jL(es:List (Nat×au×Nat))(s:Nat):List (Nat×au×Nat):=es.filter fun e=>e.1==s
theorem Ye(es:List (Nat×au×Nat))(k:Nat)(h:k<es.length)(t:Nat):jL (es.take (k+1)) t=if t=es[k].1 then jL (es.take k) es[k].1++[es[k]] else jL (es.take k) t:=by
 unfold jL
 rw[List.take_succ_eq_append_getElem h,List.filter_append]
 by_cases e:t=es[k].1
 ·rw[if_pos e,e];simp
 ·have e2:¬ es[k].1=t:=fun h=>e h.symm
  rw[if_neg e];simp[e2]
theorem aa1(es:List (Nat×au×Nat))(s k:Nat):(jL (es.take k) s).length≤es.length:=by
 unfold jL;exact Nat.le_trans (List.length_filter_le _ _) (List.length_take_le' _ _)
theorem amm(P:Nat→Nat→Nat→Option Addr→Nat→World→Prop){T:Nat→Nat→Nat→Option Addr→Nat→World→Prop}{G:Prop}(h1:(∀ m lb eb sa sc W,P m lb eb sa sc W→T m lb eb sa sc W)→G)(h2:∀ m lb eb sa sc W,P m lb eb sa sc W→T m lb eb sa sc W):G:=h1 h2
structure Made(w W0:World)(N:Nf)(m lb eb:Nat)(sa:Option Addr)(sc:Nat)(W:World):Prop where
 below:Below W0.heap.size W0 W
 ml:aJ W lb jf []
 me:aJ W eb jf []
 ac:ak W (.slice sa N.accept.length sc) 1 aO N.accept
 box:Box W m #[.int .i64 N.states,.int .i64 0,.map (some lb),.map (some eb),.slice sa N.accept.length sc] 246
 l0:W0.heap.size≤lb
 e0:W0.heap.size≤eb
 ne:lb≠eb
 m0:W0.heap.size≤m
theorem aik(N:Nf)(V:Y3)(w:World)(h:sZ w N V)(hw:N.wf)(h0:0<N.states)(hs:N.states≤65536)(hl:N.links.length≤1099511627776)(he:N.edges.length≤65536) :
  Calls Tryz.prog 153 #[.agg (dF N V)] w fun e w'=>∃ m lb eb kl ke va,e=.returned (.tuple #[.pointer (some ⟨m,0,none⟩),.int .i64 0])∧vX w' m lb eb kl ke va N∧Below w.heap.size w w':=by
 obtain⟨vl,ve,va⟩:=V
 obtain⟨la,lc,hvl⟩:=h.li.form
 obtain⟨ea,ec,lZ⟩:=h.ed.form
 obtain⟨aa,ac,hva⟩:=h.ac.form
 dsimp only at hvl lZ hva
 subst hvl
 subst lZ
 subst hva
 have hB0:=aj w (.cells (dF N ⟨.slice la N.links.length lc,.slice ea N.edges.length ec,.slice aa N.accept.length ac⟩) 121)
 have hx0:Box (w.alloc (.cells (dF N ⟨.slice la N.links.length lc,.slice ea N.edges.length ec,.slice aa N.accept.length ac⟩) 121)) w.heap.size #[.int .i64 N.states,.int .i64 0,.slice la N.links.length lc,.slice ea N.edges.length ec,.slice aa N.accept.length ac] 121:=Box.new w _ _
 have hright:=fun(u:World) (hu:Below w.heap.size w u)=>Pg N ⟨.slice la N.links.length lc,.slice ea N.edges.length ec,.slice aa N.accept.length ac⟩ u (h.kept hu) hw h0 hs
 have hclone:=fun(u:World) (hu:Below w.heap.size w u)=>Yc N.accept aa N.accept.length ac u (h.ac.kept hu) (by rw[←hw.st];exact h0) (by rw[←hw.st];omega)
 unfold dF at hB0 hright hx0 ⊢
 dsimp only at hB0 hright hx0 ⊢
 obtain⟨W0,hW0⟩:∃ W0,w.alloc (.cells #[.int .i64 N.states,.int .i64 0,.slice la N.links.length lc,.slice ea N.edges.length ec,.slice aa N.accept.length ac] 121)=W0:=⟨_,rfl⟩
 rw[hW0] at hB0 hx0
 have HW0:=ah hW0;have HB0:=ah hB0;have HX0:=ah hx0;have HRI:=ah hright;have qX:=ah hclone;have oZ:=ah h;have HWF:=ah hw
 clear hW0 hB0 hx0 hright hclone h hw
 go_enter Tryz.func153,Tryz.ntmps153
 go_wp2_with (go_at_call 151;go_must (rw[HW0.out];refine(HRI.out W0 HB0.out).mono ?_;rintro e w1 ⟨rfl,hb1⟩))
 rename_i KK wR
 have HKK:=ah wR
 clear wR
 have hBW:Below W0.heap.size W0 w1:=hb1.mono (by have:=HW0.out;rw[←this];simp)
 clear hb1
 have hB:Below W0.heap.size W0 w1.drew:=hBW.trans ((Below.refl w1.heap.size w1).drew.mono hBW.size)
 have HF:Hid (∀ u,Later w1.drew u→Box u w.heap.size #[.int .i64 N.states,.int .i64 0,.slice la N.links.length lc,.slice ea N.edges.length ec,.slice aa N.accept.length ac] 121):=ah fun u hl=>HX0.out.kept (hB.trans (hl.mono hB.size))
 clear hBW
 refine amm (Made w W0 N) (T:=?T) (fun key=>?main) ?rest
 case' main =>
  refine aA (R:=Later) 12 (by kernel_rfl) ?_
  refine pl [0,1,2,3,6,7] ?_
  repeat
   refine dI ?_ rfl (fun w1 hl=>?_) ?_
   rotate_left
   ·have hx:=HF.out w1 hl;have x0:=hx.cell 0;have x1:=hx.cell 1;have x4:=hx.cell 4;go_simp;try with_reducible rfl
   simp only[eA,eB,eC,Act.put,eD,eE,eF]
  refine bU ?_
  refine aaZ (t:=12) (i:=4) (j:=5) (k:=8) (by kernel_rfl) rfl rfl rfl (fun w1 hl K hK=>?_) (fun w1 hl K hK=>?_) (fun w1 hl K hK=>?_)
  ·have hB:=hB.trans (hl.mono hB.size)
   try have hL:=hL.kept hl
   try have hE:=hE.kept hl
   try have hA:=hA.kept hl
   clear hl
   go_simp
   refine hK.out _ (w1.alloc (.map #[] 0)) (fun _=>aj _ _) ?_
   clear hK K
   have hL:=aJ.new w1 jf
   have hb:=aj w1 (.map #[] 0)
   have I4:=hB.size
   have hB:=hB.trans (hb.mono hB.size)
   clear hb
   generalize (w1.alloc (.map #[] 0))=wq at *
   generalize w1.heap.size=lb at *
   refine Ho (t:=12) (i:=5) (j:=8) (by kernel_rfl) rfl rfl (fun w1 hl K hK=>?_) (fun w1 hl K hK=>?_)
   ·have hB:=hB.trans (hl.mono hB.size)
    try have hL:=hL.kept hl
    try have hE:=hE.kept hl
    try have hA:=hA.kept hl
    clear hl
    go_simp
    refine hK.out _ (w1.alloc (.map #[] 0)) (fun _=>aj _ _) ?_
    clear hK K
    have hE:=aJ.new w1 jf
    have hb:=aj w1 (.map #[] 0)
    have I5:=hB.size
    have hne:=hL.lt
    have hL:=hL.kept hb
    have hB:=hB.trans (hb.mono hB.size)
    clear hb
    generalize (w1.alloc (.map #[] 0))=wq at *
    generalize w1.heap.size=eb at *
    refine aP (t:=12) (i:=8) (by kernel_rfl) rfl (fun w1 hl K hK=>?_)
    have hB:=hB.trans (hl.mono hB.size)
    try have hL:=hL.kept hl
    try have hE:=hE.kept hl
    try have hA:=hA.kept hl
    clear hl
    go_simp
    refine(qX.out w1 (HB0.out.trans (hB.mono HB0.out.size))).mono ?_
    rintro e wq ⟨sa,sc,rfl,hA,hb⟩
    refine hK.out _ _ (fun _=>hb) ?_
    clear hK K
    have hL:=hL.kept hb
    have hE:=hE.kept hb
    have hB:=hB.trans (hb.mono hB.size)
    clear hb
    refine jM 9 ?_ rfl (fun w1 hl=>?_) ?_
    rotate_left
    ·skip;go_simp;try with_reducible rfl
    simp only[eA,eB,eC,Act.put,eD,eE,eF]
    refine aP (t:=12) (i:=10) (by kernel_rfl) rfl (fun w1 hl K hK=>?_)
    have hB:=hB.trans (hl.mono hB.size)
    try have hL:=hL.kept hl
    try have hE:=hE.kept hl
    try have hA:=hA.kept hl
    clear hl
    go_simp
    refine hK.out _ _ (fun _=>aj _ _) ?_
    clear hK K
    have hM:=Box.new w1 #[.int .i64 N.states,.int .i64 0,.map (some lb),.map (some eb),.slice sa N.accept.length sc] 246
    have hb:=aj w1 (.cells #[.int .i64 N.states,.int .i64 0,.map (some lb),.map (some eb),.slice sa N.accept.length sc] 246)
    have hm0:=hB.size
    have hL:=hL.kept hb
    have hE:=hE.kept hb
    have hA:=hA.kept hb
    have hB:=hB.trans (hb.mono hB.size)
    clear hb
    generalize (w1.alloc (.cells #[.int .i64 N.states,.int .i64 0,.map (some lb),.map (some eb),.slice sa N.accept.length sc] 246))=wq at *
    generalize w1.heap.size=m at *
    refine jM 11 ?_ rfl (fun w1 hl=>?_) ?_
    rotate_left
    ·skip;go_simp;try with_reducible rfl
    simp only[eA,eB,eC,Act.put,eD,eE,eF]
    refine aH (by kernel_rfl) (fun w1 hl=>?_) _
    exact key m lb eb sa sc w1 ⟨hB.trans (hl.mono hB.size),hL.kept hl,hE.kept hl,hA.kept hl,hM.kept hl,I4,I5,by omega,hm0⟩
   ·have hB:=hB.trans (hl.mono hB.size)
    try have hL:=hL.kept hl
    try have hE:=hE.kept hl
    try have hA:=hA.kept hl
    clear hl
    go_simp
    refine(qX.out w1 (HB0.out.trans (hB.mono HB0.out.size))).mono ?_
    rintro e wq ⟨sa,sc,rfl,hA,hb⟩
    refine hK.out _ _ (fun _=>hb) ?_
    clear hK K
    have hL:=hL.kept hb
    have hB:=hB.trans (hb.mono hB.size)
    clear hb
    refine aP (t:=12) (i:=5) (by kernel_rfl) rfl (fun w1 hl K hK=>?_)
    have hB:=hB.trans (hl.mono hB.size)
    try have hL:=hL.kept hl
    try have hE:=hE.kept hl
    try have hA:=hA.kept hl
    clear hl
    go_simp
    refine hK.out _ (w1.alloc (.map #[] 0)) (fun _=>aj _ _) ?_
    clear hK K
    have hE:=aJ.new w1 jf
    have hb:=aj w1 (.map #[] 0)
    have I5:=hB.size
    have hne:=hL.lt
    have hL:=hL.kept hb
    have hA:=hA.kept hb
    have hB:=hB.trans (hb.mono hB.size)
    clear hb
    generalize (w1.alloc (.map #[] 0))=wq at *
    generalize w1.heap.size=eb at *
    refine jM 9 ?_ rfl (fun w1 hl=>?_) ?_
    rotate_left
    ·skip;go_simp;try with_reducible rfl
    simp only[eA,eB,eC,Act.put,eD,eE,eF]
    refine aP (t:=12) (i:=10) (by kernel_rfl) rfl (fun w1 hl K hK=>?_)
    have hB:=hB.trans (hl.mono hB.size)
    try have hL:=hL.kept hl
    try have hE:=hE.kept hl
    try have hA:=hA.kept hl
    clear hl
    go_simp
    refine hK.out _ _ (fun _=>aj _ _) ?_
    clear hK K
    have hM:=Box.new w1 #[.int .i64 N.states,.int .i64 0,.map (some lb),.map (some eb),.slice sa N.accept.length sc] 246
    have hb:=aj w1 (.cells #[.int .i64 N.states,.int .i64 0,.map (some lb),.map (some eb),.slice sa N.accept.length sc] 246)
    have hm0:=hB.size
    have hL:=hL.kept hb
    have hE:=hE.kept hb
    have hA:=hA.kept hb
    have hB:=hB.trans (hb.mono hB.size)
    clear hb
    generalize (w1.alloc (.cells #[.int .i64 N.states,.int .i64 0,.map (some lb),.map (some eb),.slice sa N.accept.length sc] 246))=wq at *
    generalize w1.heap.size=m at *
    refine jM 11 ?_ rfl (fun w1 hl=>?_) ?_
    rotate_left
    ·skip;go_simp;try with_reducible rfl
    simp only[eA,eB,eC,Act.put,eD,eE,eF]
    refine aH (by kernel_rfl) (fun w1 hl=>?_) _
    exact key m lb eb sa sc w1 ⟨hB.trans (hl.mono hB.size),hL.kept hl,hE.kept hl,hA.kept hl,hM.kept hl,I4,I5,by omega,hm0⟩
  ·have hB:=hB.trans (hl.mono hB.size)
   try have hL:=hL.kept hl
   try have hE:=hE.kept hl
   try have hA:=hA.kept hl
   clear hl
   go_simp
   refine hK.out _ (w1.alloc (.map #[] 0)) (fun _=>aj _ _) ?_
   clear hK K
   have hE:=aJ.new w1 jf
   have hb:=aj w1 (.map #[] 0)
   have I5:=hB.size
   have hB:=hB.trans (hb.mono hB.size)
   clear hb
   generalize (w1.alloc (.map #[] 0))=wq at *
   generalize w1.heap.size=eb at *
   refine Ho (t:=12) (i:=4) (j:=8) (by kernel_rfl) rfl rfl (fun w1 hl K hK=>?_) (fun w1 hl K hK=>?_)
   ·have hB:=hB.trans (hl.mono hB.size)
    try have hL:=hL.kept hl
    try have hE:=hE.kept hl
    try have hA:=hA.kept hl
    clear hl
    go_simp
    refine hK.out _ (w1.alloc (.map #[] 0)) (fun _=>aj _ _) ?_
    clear hK K
    have hL:=aJ.new w1 jf
    have hb:=aj w1 (.map #[] 0)
    have I4:=hB.size
    have hne:=hE.lt
    have hE:=hE.kept hb
    have hB:=hB.trans (hb.mono hB.size)
    clear hb
    generalize (w1.alloc (.map #[] 0))=wq at *
    generalize w1.heap.size=lb at *
    refine aP (t:=12) (i:=8) (by kernel_rfl) rfl (fun w1 hl K hK=>?_)
    have hB:=hB.trans (hl.mono hB.size)
    try have hL:=hL.kept hl
    try have hE:=hE.kept hl
    try have hA:=hA.kept hl
    clear hl
    go_simp
    refine(qX.out w1 (HB0.out.trans (hB.mono HB0.out.size))).mono ?_
    rintro e wq ⟨sa,sc,rfl,hA,hb⟩
    refine hK.out _ _ (fun _=>hb) ?_
    clear hK K
    have hL:=hL.kept hb
    have hE:=hE.kept hb
    have hB:=hB.trans (hb.mono hB.size)
    clear hb
    refine jM 9 ?_ rfl (fun w1 hl=>?_) ?_
    rotate_left
    ·skip;go_simp;try with_reducible rfl
    simp only[eA,eB,eC,Act.put,eD,eE,eF]
    refine aP (t:=12) (i:=10) (by kernel_rfl) rfl (fun w1 hl K hK=>?_)
    have hB:=hB.trans (hl.mono hB.size)
    try have hL:=hL.kept hl
    try have hE:=hE.kept hl
    try have hA:=hA.kept hl
    clear hl
    go_simp
    refine hK.out _ _ (fun _=>aj _ _) ?_
    clear hK K
    have hM:=Box.new w1 #[.int .i64 N.states,.int .i64 0,.map (some lb),.map (some eb),.slice sa N.accept.length sc] 246
    have hb:=aj w1 (.cells #[.int .i64 N.states,.int .i64 0,.map (some lb),.map (some eb),.slice sa N.accept.length sc] 246)
    have hm0:=hB.size
    have hL:=hL.kept hb
    have hE:=hE.kept hb
    have hA:=hA.kept hb
    have hB:=hB.trans (hb.mono hB.size)
    clear hb
    generalize (w1.alloc (.cells #[.int .i64 N.states,.int .i64 0,.map (some lb),.map (some eb),.slice sa N.accept.length sc] 246))=wq at *
    generalize w1.heap.size=m at *
    refine jM 11 ?_ rfl (fun w1 hl=>?_) ?_
    rotate_left
    ·skip;go_simp;try with_reducible rfl
    simp only[eA,eB,eC,Act.put,eD,eE,eF]
    refine aH (by kernel_rfl) (fun w1 hl=>?_) _
    exact key m lb eb sa sc w1 ⟨hB.trans (hl.mono hB.size),hL.kept hl,hE.kept hl,hA.kept hl,hM.kept hl,I4,I5,by omega,hm0⟩
   ·have hB:=hB.trans (hl.mono hB.size)
    try have hL:=hL.kept hl
    try have hE:=hE.kept hl
    try have hA:=hA.kept hl
    clear hl
    go_simp
    refine(qX.out w1 (HB0.out.trans (hB.mono HB0.out.size))).mono ?_
    rintro e wq ⟨sa,sc,rfl,hA,hb⟩
    refine hK.out _ _ (fun _=>hb) ?_
    clear hK K
    have hE:=hE.kept hb
    have hB:=hB.trans (hb.mono hB.size)
    clear hb
    refine aP (t:=12) (i:=4) (by kernel_rfl) rfl (fun w1 hl K hK=>?_)
    have hB:=hB.trans (hl.mono hB.size)
    try have hL:=hL.kept hl
    try have hE:=hE.kept hl
    try have hA:=hA.kept hl
    clear hl
    go_simp
    refine hK.out _ (w1.alloc (.map #[] 0)) (fun _=>aj _ _) ?_
    clear hK K
    have hL:=aJ.new w1 jf
    have hb:=aj w1 (.map #[] 0)
    have I4:=hB.size
    have hne:=hE.lt
    have hE:=hE.kept hb
    have hA:=hA.kept hb
    have hB:=hB.trans (hb.mono hB.size)
    clear hb
    generalize (w1.alloc (.map #[] 0))=wq at *
    generalize w1.heap.size=lb at *
    refine jM 9 ?_ rfl (fun w1 hl=>?_) ?_
    rotate_left
    ·skip;go_simp;try with_reducible rfl
    simp only[eA,eB,eC,Act.put,eD,eE,eF]
    refine aP (t:=12) (i:=10) (by kernel_rfl) rfl (fun w1 hl K hK=>?_)
    have hB:=hB.trans (hl.mono hB.size)
    try have hL:=hL.kept hl
    try have hE:=hE.kept hl
    try have hA:=hA.kept hl
    clear hl
    go_simp
    refine hK.out _ _ (fun _=>aj _ _) ?_
    clear hK K
    have hM:=Box.new w1 #[.int .i64 N.states,.int .i64 0,.map (some lb),.map (some eb),.slice sa N.accept.length sc] 246
    have hb:=aj w1 (.cells #[.int .i64 N.states,.int .i64 0,.map (some lb),.map (some eb),.slice sa N.accept.length sc] 246)
    have hm0:=hB.size
    have hL:=hL.kept hb
    have hE:=hE.kept hb
    have hA:=hA.kept hb
    have hB:=hB.trans (hb.mono hB.size)
    clear hb
    generalize (w1.alloc (.cells #[.int .i64 N.states,.int .i64 0,.map (some lb),.map (some eb),.slice sa N.accept.length sc] 246))=wq at *
    generalize w1.heap.size=m at *
    refine jM 11 ?_ rfl (fun w1 hl=>?_) ?_
    rotate_left
    ·skip;go_simp;try with_reducible rfl
    simp only[eA,eB,eC,Act.put,eD,eE,eF]
    refine aH (by kernel_rfl) (fun w1 hl=>?_) _
    exact key m lb eb sa sc w1 ⟨hB.trans (hl.mono hB.size),hL.kept hl,hE.kept hl,hA.kept hl,hM.kept hl,I4,I5,by omega,hm0⟩
  ·have hB:=hB.trans (hl.mono hB.size)
   try have hL:=hL.kept hl
   try have hE:=hE.kept hl
   try have hA:=hA.kept hl
   clear hl
   go_simp
   refine(qX.out w1 (HB0.out.trans (hB.mono HB0.out.size))).mono ?_
   rintro e wq ⟨sa,sc,rfl,hA,hb⟩
   refine hK.out _ _ (fun _=>hb) ?_
   clear hK K
   have hB:=hB.trans (hb.mono hB.size)
   clear hb
   refine Ho (t:=12) (i:=4) (j:=5) (by kernel_rfl) rfl rfl (fun w1 hl K hK=>?_) (fun w1 hl K hK=>?_)
   ·have hB:=hB.trans (hl.mono hB.size)
    try have hL:=hL.kept hl
    try have hE:=hE.kept hl
    try have hA:=hA.kept hl
    clear hl
    go_simp
    refine hK.out _ (w1.alloc (.map #[] 0)) (fun _=>aj _ _) ?_
    clear hK K
    have hL:=aJ.new w1 jf
    have hb:=aj w1 (.map #[] 0)
    have I4:=hB.size
    have hA:=hA.kept hb
    have hB:=hB.trans (hb.mono hB.size)
    clear hb
    generalize (w1.alloc (.map #[] 0))=wq at *
    generalize w1.heap.size=lb at *
    refine aP (t:=12) (i:=5) (by kernel_rfl) rfl (fun w1 hl K hK=>?_)
    have hB:=hB.trans (hl.mono hB.size)
    try have hL:=hL.kept hl
    try have hE:=hE.kept hl
    try have hA:=hA.kept hl
    clear hl
    go_simp
    refine hK.out _ (w1.alloc (.map #[] 0)) (fun _=>aj _ _) ?_
    clear hK K
    have hE:=aJ.new w1 jf
    have hb:=aj w1 (.map #[] 0)
    have I5:=hB.size
    have hne:=hL.lt
    have hL:=hL.kept hb
    have hA:=hA.kept hb
    have hB:=hB.trans (hb.mono hB.size)
    clear hb
    generalize (w1.alloc (.map #[] 0))=wq at *
    generalize w1.heap.size=eb at *
    refine jM 9 ?_ rfl (fun w1 hl=>?_) ?_
    rotate_left
    ·skip;go_simp;try with_reducible rfl
    simp only[eA,eB,eC,Act.put,eD,eE,eF]
    refine aP (t:=12) (i:=10) (by kernel_rfl) rfl (fun w1 hl K hK=>?_)
    have hB:=hB.trans (hl.mono hB.size)
    try have hL:=hL.kept hl
    try have hE:=hE.kept hl
    try have hA:=hA.kept hl
    clear hl
    go_simp
    refine hK.out _ _ (fun _=>aj _ _) ?_
    clear hK K
    have hM:=Box.new w1 #[.int .i64 N.states,.int .i64 0,.map (some lb),.map (some eb),.slice sa N.accept.length sc] 246
    have hb:=aj w1 (.cells #[.int .i64 N.states,.int .i64 0,.map (some lb),.map (some eb),.slice sa N.accept.length sc] 246)
    have hm0:=hB.size
    have hL:=hL.kept hb
    have hE:=hE.kept hb
    have hA:=hA.kept hb
    have hB:=hB.trans (hb.mono hB.size)
    clear hb
    generalize (w1.alloc (.cells #[.int .i64 N.states,.int .i64 0,.map (some lb),.map (some eb),.slice sa N.accept.length sc] 246))=wq at *
    generalize w1.heap.size=m at *
    refine jM 11 ?_ rfl (fun w1 hl=>?_) ?_
    rotate_left
    ·skip;go_simp;try with_reducible rfl
    simp only[eA,eB,eC,Act.put,eD,eE,eF]
    refine aH (by kernel_rfl) (fun w1 hl=>?_) _
    exact key m lb eb sa sc w1 ⟨hB.trans (hl.mono hB.size),hL.kept hl,hE.kept hl,hA.kept hl,hM.kept hl,I4,I5,by omega,hm0⟩
   ·have hB:=hB.trans (hl.mono hB.size)
    try have hL:=hL.kept hl
    try have hE:=hE.kept hl
    try have hA:=hA.kept hl
    clear hl
    go_simp
    refine hK.out _ (w1.alloc (.map #[] 0)) (fun _=>aj _ _) ?_
    clear hK K
    have hE:=aJ.new w1 jf
    have hb:=aj w1 (.map #[] 0)
    have I5:=hB.size
    have hA:=hA.kept hb
    have hB:=hB.trans (hb.mono hB.size)
    clear hb
    generalize (w1.alloc (.map #[] 0))=wq at *
    generalize w1.heap.size=eb at *
    refine aP (t:=12) (i:=4) (by kernel_rfl) rfl (fun w1 hl K hK=>?_)
    have hB:=hB.trans (hl.mono hB.size)
    try have hL:=hL.kept hl
    try have hE:=hE.kept hl
    try have hA:=hA.kept hl
    clear hl
    go_simp
    refine hK.out _ (w1.alloc (.map #[] 0)) (fun _=>aj _ _) ?_
    clear hK K
    have hL:=aJ.new w1 jf
    have hb:=aj w1 (.map #[] 0)
    have I4:=hB.size
    have hne:=hE.lt
    have hE:=hE.kept hb
    have hA:=hA.kept hb
    have hB:=hB.trans (hb.mono hB.size)
    clear hb
    generalize (w1.alloc (.map #[] 0))=wq at *
    generalize w1.heap.size=lb at *
    refine jM 9 ?_ rfl (fun w1 hl=>?_) ?_
    rotate_left
    ·skip;go_simp;try with_reducible rfl
    simp only[eA,eB,eC,Act.put,eD,eE,eF]
    refine aP (t:=12) (i:=10) (by kernel_rfl) rfl (fun w1 hl K hK=>?_)
    have hB:=hB.trans (hl.mono hB.size)
    try have hL:=hL.kept hl
    try have hE:=hE.kept hl
    try have hA:=hA.kept hl
    clear hl
    go_simp
    refine hK.out _ _ (fun _=>aj _ _) ?_
    clear hK K
    have hM:=Box.new w1 #[.int .i64 N.states,.int .i64 0,.map (some lb),.map (some eb),.slice sa N.accept.length sc] 246
    have hb:=aj w1 (.cells #[.int .i64 N.states,.int .i64 0,.map (some lb),.map (some eb),.slice sa N.accept.length sc] 246)
    have hm0:=hB.size
    have hL:=hL.kept hb
    have hE:=hE.kept hb
    have hA:=hA.kept hb
    have hB:=hB.trans (hb.mono hB.size)
    clear hb
    generalize (w1.alloc (.cells #[.int .i64 N.states,.int .i64 0,.map (some lb),.map (some eb),.slice sa N.accept.length sc] 246))=wq at *
    generalize w1.heap.size=m at *
    refine jM 11 ?_ rfl (fun w1 hl=>?_) ?_
    rotate_left
    ·skip;go_simp;try with_reducible rfl
    simp only[eA,eB,eC,Act.put,eD,eE,eF]
    refine aH (by kernel_rfl) (fun w1 hl=>?_) _
    exact key m lb eb sa sc w1 ⟨hB.trans (hl.mono hB.size),hL.kept hl,hE.kept hl,hA.kept hl,hM.kept hl,I4,I5,by omega,hm0⟩
 case rest =>
  intro m lb eb sa sc W hP
  refine HKK.out _ _ ?_
  clear HF hB HKK
  have hbw:Below w.heap.size w W:=HB0.out.trans (hP.below.mono HB0.out.size)
  have hsz0:=HB0.out.size
  have hl0:=hP.l0
  have he0:=hP.e0
  have hm0:=hP.m0
  have hne:=hP.ne
  have hlb:=hP.ml.lt
  have heb:=hP.me.lt
  have hmb:=hP.box.lt
  have hml:m≠lb:=fun e=>by have h1:=hP.box;have⟨es,c,h2,_⟩:=hP.ml;subst e;unfold Box at h1;rw[h1] at h2;cases h2
  have hme:m≠eb:=fun e=>by have h1:=hP.box;have⟨es,c,h2,_⟩:=hP.me;subst e;unfold Box at h1;rw[h1] at h2;cases h2
  have Ph:=HX0.out.kept hP.below
  have amn:w.heap.size<W0.heap.size:=HX0.out.lt
  have x2:W.cell? ⟨w.heap.size,2,none⟩=some (.slice la N.links.length lc):=Ph.cell 2
  have hxl:=Ph.lt
  have hG0:eU W lb W.heap.size 3 1 aO (iw (N.links.take 0)) []:=eU.new W lb W.heap.size 3 1 aO hP.ml hlb
  obtain⟨lbk,lo,_,hlc,adv,hla,hlx⟩:=oZ.out.li.open
  have hcl:∀ (wr:World) (k:Nat) (hk:k<N.links.length),Below w.heap.size w wr→wr.cell? ⟨lbk,lo+k*2,none⟩=some (.int .i64 N.links[k].1)∧wr.cell? ⟨lbk,lo+k*2+1,none⟩=some (.int .i64 N.links[k].2):=fun wr k hk hB=>by
   have e0:=hlx k hk 0 _ rfl
   have e1:=hlx k hk 1 _ rfl
   rw[Nat.add_zero] at e0
   exact⟨(hB.cell (World.block_lt_of_cell? w _ e0)).trans e0,(hB.cell (World.block_lt_of_cell? w _ e1)).trans e1⟩
  have HP:=ah hP;have jG:=ah hbw;have HG0:=ah hG0;have HLC:=ah hcl;have G5:=ah hla;have HXW:=ah Ph
  clear hP hbw hG0 hcl hla hlx Ph
  obtain⟨nl,hnl⟩:∃ nl,N.links.length=nl:=⟨_,rfl⟩
  have EU:=ah hnl
  rw[hnl] at hlc x2
  clear hnl
  go_wp2
  clear x2 hxl
  go_loopw [26] (fun i wr=>∃ (k:Nat) (kl:List (Int×Value)),k≤nl∧i=.int .i64 k∧eU wr lb W.heap.size 3 1 aO (iw (N.links.take k)) kl∧dG W.heap.size lb W wr) (fun i _=>nl - (intOf i).toNat)
  case atStart=>exact⟨0,[],Nat.zero_le _,rfl,HG0.out,dG.refl _ _ _⟩
  case round =>
   obtain⟨k,kl,hk,rfl,hG,rM⟩:=hrel
   have hBr:=rM.toBelow jG.out (by omega) (by omega)
   have amo:=rM.size
   by_cases hlt:k<nl
   ·have hlk:k<N.links.length:=by rw[EU.out];exact hlt
    obtain rfl:=G5.out k hlk
    obtain⟨e0,e1⟩:=HLC.out wr k hlk hBr
    have hgt:=Vb N.links k hlk
    have hgl:=fun s=>Yd N.links s k
    generalize N.links[k]=x at *
    obtain⟨x0,x1⟩:=x
    dsimp only at e0 e1 hgt
    have hbl:=World.block_lt_of_cell? wr _ e0
    have hB1:=aj wr (.cells #[.int .i64 x0,.int .i64 x1] 233)
    have hki:(k:Int)<(nl:Int):=by omega
    have hk0:(0:Int)≤(k:Int):=by omega
    have HGT:=ah hgt;have HGL:=ah hgl
    have wB:Below wr.heap.size wr (wr.alloc (.cells #[.int .i64 x0,.int .i64 x1] 233)).drew:=hB1.trans ((Below.refl _ _).drew.mono hB1.size)
    have hstart:=hG.kept wB
    have hvb:∀ b,b<W.heap.size∨wr.heap.size≤b→(valOf kl x0).ownBlock≠some b:=fun b hb e=>by have:=(hG.own x0).blk e;omega
    have HF:Hid (∀ u,iE W.heap.size 3 1 aO (valOf kl x0) (iw (N.links.take k) x0) x1 (wr.alloc (.cells #[.int .i64 x0,.int .i64 x1] 233)).drew u→Box u wr.heap.size #[.int .i64 x0,.int .i64 x1] 233∧Box u m #[.int .i64 N.states,.int .i64 0,.map (some lb),.map (some eb),.slice sa N.accept.length sc] 246∧eU u lb W.heap.size 3 1 aO (iw (N.links.take k)) kl∧dG W.heap.size lb W u):=ah fun u hl=>by
     have h1:dG W.heap.size lb W (wr.alloc (.cells #[.int .i64 x0,.int .i64 x1] 233)).drew:=rM.trans (dG.below (mb:=lb) wB (by omega))
     have h2:dG W.heap.size lb W u:=h1.trans ⟨hl.os,hl.tape,hl.output,hl.grow,fun b hb _=>hl.block b (by have:=h1.size;omega) (hvb b (.inl hb))⟩
     exact⟨hl.box (Box.new wr _ _).drew (hvb _ (.inr (Nat.le_refl _))),h2.box HP.out.box hmb hml,hstart.Bd hl,h2⟩
    clear hgt hgl hG rM hBr wB hB1 hstart hvb
    go_wp2_with fail
    refine aA (R:=iE W.heap.size 3 1 aO (valOf kl x0) (iw (N.links.take k) x0) x1) 17 (by kernel_rfl) ?_
    refine pl [0,1,2,3,4,5,6,7,8,9,10,11,13,14] ?_
    repeat
     refine dI ?_ rfl (fun w1 hl=>?_) ?_
     rotate_left
     ·obtain⟨hX,hM,hG,_⟩:=HF.out w1 hl;have x0':=hX.cell 0;have x1':=hX.cell 1;have y2:w1.cell? ⟨m,2,none⟩=some (.map (some lb)):=hM.cell 2;go_simp;try with_reducible rfl
     simp only[eA,eB,eC,Act.put,eD,eE,eF]
    refine bU ?_
    refine jM 12 ?_ rfl (fun w1 hl=>?_) ?_
    rotate_left
    ·obtain⟨_,_,hG,_⟩:=HF.out w1 hl;have hlk:=lF hG.mp zM Tryz.underlying243 (O6 w1) ((x0:Nat):Int);rw[show(look ((x0:Nat):Int) kl).getD (.slice none 0 0)=valOf kl x0 from rfl] at hlk;go_simp;try with_reducible rfl
    simp only[eA,eB,eC,Act.put,eD,eE,eF]
    refine aP (t:=17) (i:=15) (by kernel_rfl) rfl (fun w1 hl K hK=>?_)
    have JK:=hl
    clear hl
    go_simp
    refine hK.out _ _ (fun _=>(iq _ _ _ _ _ _ _).later _ _ (aj _ _)) ?_
    clear hK K
    have hsl:=qL dN w1 3 [x1] (by simp[maxLen])
    have Ez:=(iq W.heap.size 3 1 aO (valOf kl x0) (iw (N.links.take k) x0) x1).trans _ _ _ JK ((iq _ _ _ _ _ _ _).later _ _ (aj w1 (.cells ([x1].flatMap aO).toArray 3)))
    have hvn:(valOf kl x0).ownBlock≠some w1.heap.size:=fun e=>by have h1:=((HF.out w1 JK).2.2.1.own x0).blk e;omega
    have hnb:=Box.new w1 (([x1].flatMap aO).toArray) 3
    generalize hwq:w1.heap.size=nb at *
    clear hwq
    have aj0:=(HF.out _ Ez).2.2.2.size
    change iE _ _ _ _ _ _ _ _ (w1.alloc (.cells #[.int .i64 x1] 3)) at Ez
    change Box (w1.alloc (.cells #[.int .i64 x1] 3)) nb #[.int .i64 x1] 3 at hnb
    clear hsl JK
    generalize (w1.alloc (.cells #[.int .i64 x1] 3))=wq at *
    refine aP (t:=17) (i:=16) (by kernel_rfl) rfl (fun w1 hl K hK=>?_)
    have JL:=(iq W.heap.size 3 1 aO (valOf kl x0) (iw (N.links.take k) x0) x1).trans _ _ _ Ez hl
    have CQ:=hl.box hnb hvn
    obtain⟨_,_,AB,MN⟩:=HF.out w1 JL
    have aj1:=MN.size
    have aj2:=HGL.out x0
    have hy0:w1.cell? ⟨nb,0,none⟩=some (.int .i64 x1):=CQ.cell 0
    refine gu (by rfl) ?_
    refine Cm _ _ 24 rfl jg dN rfl (AB.own x0) ⟨nb,0,none⟩ 1 x1 rfl (fun j u hu=>by
     cases j with
     | zero=>simp[aO] at hu;subst hu;exact hy0
     | succ j=>simp[aO] at hu) (by simp only[maxLen];omega) (by omega) (by omega) ?_
    intro a' cap' w' hown' hg hfr G7
    refine hK.out _ _ (fun _=>G7) ?_
    clear hK K
    simp only[List.getElem_toArray,List.getElem_cons_zero,List.getElem_cons_succ,Act.put,List.setIfInBounds_toArray,List.set_cons_zero,List.set_cons_succ]
    refine aP (t:=17) (i:=17) (by kernel_rfl) rfl (fun w1 hl K hK=>?_)
    have JM:=(iq W.heap.size 3 1 aO (valOf kl x0) (iw (N.links.take k) x0) x1).trans _ _ _ G7 hl
    have G8:=hl.Jq _ (by
     have e:(iw (N.links.take k) x0).length+1=(iw (N.links.take k) x0++[x1]).length:=by simp
     exact hown')
    obtain⟨_,_,JO,MO⟩:=HF.out w1 ((iq W.heap.size 3 1 aO (valOf kl x0) (iw (N.links.take k) x0) x1).trans _ _ _ JL JM)
    obtain⟨w4,hput,hm4,sU,CG,CP⟩:=JO.mp.rX zM Tryz.underlying243 (x0:Int) (.slice a' ((iw (N.links.take k) x0).length+1) cap')
    go_simp
    refine hK.out _ _ (fun h=>absurd rfl h) ?_
    clear hK K
    have iQ:=AB.put x0 x1 G8 JM.grownBy hfr hm4 sU
    have TM:=MO.put sU CG CP
    have aj3:=TM.size
    refine aH (by kernel_rfl) (fun w1 hl=>?_) _
    have jF:=AB.Di iQ hl
    have hM5:=TM.trans (hl.aeg AB (by omega))
    have hge:(fun t=>if t=x0 then iw (N.links.take k) x0++[x1] else iw (N.links.take k) t)=iw (N.links.take (k+1)):=funext fun t=>(HGT.out t).symm
    rw[hge] at jF
    have HP5:=ah jF;have VP:=ah hM5
    clear jF hM5 hge iQ TM hl hput hm4 sU CP JO MO G8 JM G7 hg hfr hown' hy0 AB MN CQ JL Ez hnb hvn e0 e1 hbl HF
    go_wp2
    exact⟨⟨k+1,_,hlt,by push_cast;rfl,HP5.out,VP.out⟩,by simp[intOf];omega⟩
   ·obtain rfl:k=nl:=by omega
    rw[←EU.out,List.take_length] at hG
    have hmW:=rM.box HP.out.box hmb hml
    have heW:=rM.map HP.out.me heb (by omega)
    have Ph:=rM.box HXW.out (by omega) (by omega)
    have z3:wr.cell? ⟨w.heap.size,3,none⟩=some (.slice ea N.edges.length ec):=Ph.cell 3
    have hzl:=Ph.lt
    have VX:=ah rM
    have hE0:eU wr eb W.heap.size 240 6 fU (jL (N.edges.take 0)) []:=eU.new wr eb W.heap.size 240 6 fU heW heb
    obtain⟨ebk,eo,_,hec,aif,hea,hex⟩:=oZ.out.ed.open
    have hce:∀ (u:World) (k:Nat) (hk:k<N.edges.length),Below w.heap.size w u→(∀ j x,(fU N.edges[k])[j]?=some x→u.cell? ⟨ebk,eo+k*6+j,none⟩=some x):=fun u k hk hB j x hu=>by
     have e0:=hex k hk j x hu
     exact(hB.cell (World.block_lt_of_cell? w _ e0)).trans e0
    have HG:=ah hG;have HMW:=ah hmW;have HE0:=ah hE0;have Lu:=ah hce;have HEA:=ah hea;have HBR:=ah hBr
    clear hG hmW heW Ph hE0 hce hea hex rM hBr
    obtain⟨ne,hne2⟩:∃ ne,N.edges.length=ne:=⟨_,rfl⟩
    have MJ:=ah hne2
    rw[hne2] at hec z3
    clear hne2
    go_wp2
    clear z3 hzl
    obtain⟨W2,hW2⟩:∃ W2,wr=W2:=⟨_,rfl⟩
    rw[hW2] at HG HMW HE0 HBR VX amo ⊢
    clear hW2
    go_loopw [51] (fun i wr=>∃ (k:Nat) (ke:List (Int×Value)),k≤ne∧i=.int .i64 k∧eU wr eb W.heap.size 240 6 fU (jL (N.edges.take k)) ke∧eU wr lb W.heap.size 3 1 aO (iw N.links) kl∧dG W.heap.size eb W2 wr) (fun i _=>ne - (intOf i).toNat)
    case atStart=>exact⟨0,[],Nat.zero_le _,rfl,HE0.out,HG.out,dG.refl _ _ _⟩
    case round =>
     obtain⟨k,ke,hk,rfl,hE,hG,rM⟩:=hrel
     have hBr:=rM.toBelow HBR.out (by omega) (by omega)
     have apD:=rM.size
     by_cases hlt:k<ne
     ·have hlk:k<N.edges.length:=by rw[MJ.out];exact hlt
      obtain rfl:=HEA.out k hlk
      have hcc:=Lu.out wr k hlk hBr
      have hgt:=Ye N.edges k hlk
      have hgl:=fun s=>aa1 N.edges s k
      generalize N.edges[k]=x at *
      obtain⟨x0,st,x1⟩:=x
      dsimp only at hgt
      obtain⟨e0,e1,e2,e3,e4,e5⟩:=yt (P:=fun j u=>wr.cell? ⟨ebk,eo+k*6+j,none⟩=some u) x0 st x1 hcc
      rw[Nat.add_zero] at e0
      clear hcc
      have hbl:=World.block_lt_of_cell? wr _ e0
      have hB1:=aj wr (.cells (fU (x0,st,x1)).toArray 240)
      have hki:(k:Int)<(ne:Int):=by omega
      have hk0:(0:Int)≤(k:Int):=by omega
      have HGT:=ah hgt;have HGL:=ah hgl
      have wB:Below wr.heap.size wr (wr.alloc (.cells (fU (x0,st,x1)).toArray 240)).drew:=hB1.trans ((Below.refl _ _).drew.mono hB1.size)
      have hstart:=hE.kept wB
      have Wn:=hG.kept wB
      have hvb:∀ b,b<W.heap.size∨wr.heap.size≤b→(valOf ke x0).ownBlock≠some b:=fun b hb e=>by have:=(hE.own x0).blk e;omega
      have HF:Hid (∀ u,iE W.heap.size 240 6 fU (valOf ke x0) (jL (N.edges.take k) x0) (x0,st,x1) (wr.alloc (.cells (fU (x0,st,x1)).toArray 240)).drew u→Box u wr.heap.size (fU (x0,st,x1)).toArray 240∧Box u m #[.int .i64 N.states,.int .i64 0,.map (some lb),.map (some eb),.slice sa N.accept.length sc] 246∧eU u eb W.heap.size 240 6 fU (jL (N.edges.take k)) ke∧dG W.heap.size eb W2 u∧eU u lb W.heap.size 3 1 aO (iw N.links) kl):=ah fun u hl=>by
       have h1:dG W.heap.size eb W2 (wr.alloc (.cells (fU (x0,st,x1)).toArray 240)).drew:=rM.trans (dG.below (mb:=eb) wB (by omega))
       have h2:dG W.heap.size eb W2 u:=h1.trans ⟨hl.os,hl.tape,hl.output,hl.grow,fun b hb _=>hl.block b (by have:=h1.size;omega) (hvb b (.inl hb))⟩
       exact⟨hl.box (Box.new wr _ _).drew (hvb _ (.inr (Nat.le_refl _))),h2.box HMW.out hmb hme,hstart.Bd hl,h2,Wn.aeh (hstart.own x0) hl (by decide)⟩
      clear hgt hgl hG hE rM hBr wB hB1 hstart Wn hvb
      go_wp2_with fail
      refine aA (R:=iE W.heap.size 240 6 fU (valOf ke x0) (jL (N.edges.take k) x0) (x0,st,x1)) 16 (by kernel_rfl) ?_
      refine pl [0,1,2,3,4,5,6,7,8,9,10,11,13] ?_
      repeat
       refine dI ?_ rfl (fun w1 hl=>?_) ?_
       rotate_left
       ·obtain⟨hX,hM,hG,_⟩:=HF.out w1 hl;have x0':w1.cell? ⟨wr.heap.size,0,none⟩=some (.int .i64 x0):=hX.cell 0;have x1':w1.cell? ⟨wr.heap.size,1,none⟩=some (.int .u64 (word st 0:Nat)):=hX.cell 1;have x2':w1.cell? ⟨wr.heap.size,2,none⟩=some (.int .u64 (word st 1:Nat)):=hX.cell 2;have x3':w1.cell? ⟨wr.heap.size,3,none⟩=some (.int .u64 (word st 2:Nat)):=hX.cell 3;have x4':w1.cell? ⟨wr.heap.size,4,none⟩=some (.int .u64 (word st 3:Nat)):=hX.cell 4;have x5':w1.cell? ⟨wr.heap.size,5,none⟩=some (.int .i64 x1):=hX.cell 5;have y2:w1.cell? ⟨m,3,none⟩=some (.map (some eb)):=hM.cell 3;go_simp;try with_reducible rfl
       simp only[eA,eB,eC,Act.put,eD,eE,eF]
      refine bU ?_
      refine jM 12 ?_ rfl (fun w1 hl=>?_) ?_
      rotate_left
      ·obtain⟨_,_,hG,_⟩:=HF.out w1 hl;have hlk:=lF hG.mp zM Tryz.underlying244 (MK w1) ((x0:Nat):Int);rw[show(look ((x0:Nat):Int) ke).getD (.slice none 0 0)=valOf ke x0 from rfl] at hlk;go_simp;try with_reducible rfl
      simp only[eA,eB,eC,Act.put,eD,eE,eF]
      refine aP (t:=16) (i:=14) (by kernel_rfl) rfl (fun w1 hl K hK=>?_)
      have JK:=hl
      clear hl
      go_simp
      refine hK.out _ _ (fun _=>(iq _ _ _ _ _ _ _).later _ _ (aj _ _)) ?_
      clear hK K
      have hsl:=qL xJ w1 240 [(x0,st,x1)] (by simp[maxLen])
      have Ez:=(iq W.heap.size 240 6 fU (valOf ke x0) (jL (N.edges.take k) x0) (x0,st,x1)).trans _ _ _ JK ((iq _ _ _ _ _ _ _).later _ _ (aj w1 (.cells ([(x0,st,x1)].flatMap fU).toArray 240)))
      have hvn:(valOf ke x0).ownBlock≠some w1.heap.size:=fun e=>by have h1:=((HF.out w1 JK).2.2.1.own x0).blk e;omega
      have hnb:=Box.new w1 ([(x0,st,x1)].flatMap fU).toArray 240
      generalize hwq:w1.heap.size=nb at *
      clear hwq
      have aj0:=(HF.out _ Ez).2.2.2.1.size
      change iE _ _ _ _ _ _ _ _ (w1.alloc (.cells #[.int .i64 x0,.int .u64 (word st 0:Nat),.int .u64 (word st 1:Nat),.int .u64 (word st 2:Nat),.int .u64 (word st 3:Nat),.int .i64 x1] 240)) at Ez
      change Box (w1.alloc (.cells #[.int .i64 x0,.int .u64 (word st 0:Nat),.int .u64 (word st 1:Nat),.int .u64 (word st 2:Nat),.int .u64 (word st 3:Nat),.int .i64 x1] 240)) nb #[.int .i64 x0,.int .u64 (word st 0:Nat),.int .u64 (word st 1:Nat),.int .u64 (word st 2:Nat),.int .u64 (word st 3:Nat),.int .i64 x1] 240 at hnb
      clear hsl JK
      generalize (w1.alloc (.cells #[.int .i64 x0,.int .u64 (word st 0:Nat),.int .u64 (word st 1:Nat),.int .u64 (word st 2:Nat),.int .u64 (word st 3:Nat),.int .i64 x1] 240))=wq at *
      refine aP (t:=16) (i:=15) (by kernel_rfl) rfl (fun w1 hl K hK=>?_)
      have JL:=(iq W.heap.size 240 6 fU (valOf ke x0) (jL (N.edges.take k) x0) (x0,st,x1)).trans _ _ _ Ez hl
      have CQ:=hl.box hnb hvn
      obtain⟨_,_,AB,MN,amq⟩:=HF.out w1 JL
      have aj1:=MN.size
      have aj2:=HGL.out x0
      have hy0:∀ j u,(fU (x0,st,x1))[j]?=some u→w1.cell? ((⟨nb,0,none⟩:Addr).add j)=some u:=fun j u hu=>by
       rw[show(⟨nb,0,none⟩:Addr).add j=⟨nb,j,none⟩ by rw[Addr.add_lit,Nat.zero_add],CQ.cell,←hu]
       simp[fU]
      refine gu (by rfl) ?_
      refine Cm _ _ 119 rfl O5 xJ rfl (AB.own x0) ⟨nb,0,none⟩ 1 (x0,st,x1) rfl hy0 (by simp only[maxLen];omega) (by omega) (by omega) ?_
      intro a' cap' w' hown' hg hfr G7
      refine hK.out _ _ (fun _=>G7) ?_
      clear hK K
      simp only[List.getElem_toArray,List.getElem_cons_zero,List.getElem_cons_succ,Act.put,List.setIfInBounds_toArray,List.set_cons_zero,List.set_cons_succ]
      refine aP (t:=16) (i:=16) (by kernel_rfl) rfl (fun w1 hl K hK=>?_)
      have JM:=(iq W.heap.size 240 6 fU (valOf ke x0) (jL (N.edges.take k) x0) (x0,st,x1)).trans _ _ _ G7 hl
      have G8:=hl.Jq _ (by
       have e:(jL (N.edges.take k) x0).length+1=(jL (N.edges.take k) x0++[(x0,st,x1)]).length:=by simp
       exact hown')
      obtain⟨_,_,JO,MO,ais⟩:=HF.out w1 ((iq W.heap.size 240 6 fU (valOf ke x0) (jL (N.edges.take k) x0) (x0,st,x1)).trans _ _ _ JL JM)
      obtain⟨w4,hput,hm4,sU,CG,CP⟩:=JO.mp.rX zM Tryz.underlying244 (x0:Int) (.slice a' ((jL (N.edges.take k) x0).length+1) cap')
      go_simp
      refine hK.out _ _ (fun h=>absurd rfl h) ?_
      clear hK K
      have iQ:=AB.put x0 (x0,st,x1) G8 JM.grownBy hfr hm4 sU
      have TM:=MO.put sU CG CP
      have hL4:=ais.afE sU heb (by omega)
      have aj3:=TM.size
      have hov:Own w4 W.heap.size 240 6 fU (valOf ke x0) (jL (N.edges.take k) x0):=(JO.own x0).same fun g hgg=>sU g (by have:=((JO.own x0).blk hgg).1;omega)
      refine aH (by kernel_rfl) (fun w1 hl=>?_) _
      have jF:=AB.Di iQ hl
      have hM5:=TM.trans (hl.aeg AB (by omega))
      have hL5:=hL4.aeh hov hl (by decide)
      have hge:(fun t=>if t=x0 then jL (N.edges.take k) x0++[(x0,st,x1)] else jL (N.edges.take k) t)=jL (N.edges.take (k+1)):=funext fun t=>(HGT.out t).symm
      rw[hge] at jF
      have HP5:=ah jF;have VP:=ah hM5;have HL5:=ah hL5
      clear jF hM5 hge iQ TM hl hput hm4 sU CP JO MO G8 JM G7 hg hfr hown' hy0 AB MN CQ JL Ez hnb hvn e0 e1 e2 e3 e4 e5 hbl HF hL5 hL4 hov amq ais
      go_wp2
      exact⟨⟨k+1,_,hlt,by push_cast;rfl,HP5.out,HL5.out,VP.out⟩,by simp[intOf];omega⟩
     ·obtain rfl:k=ne:=by omega
      rw[←MJ.out,List.take_length] at hE
      have hmF:=rM.box HMW.out hmb hme
      have haF:=HP.out.ac.aa0 (w':=wr) fun b ob h hc=>by
       have hlt:b<W.heap.size:=(Array.getElem?_eq_some_iff.1 h).1
       exact((rM.block b hlt (EX HP.out.me h hc)).trans (VX.out.block b hlt (EX HP.out.ml h hc))).trans h
      go_wp2
      go_ret2
      refine⟨m,lb,eb,kl,ke,_,rfl,⟨hmF,hG.mp,hE.mp,fun s=>?_,fun s=>?_,haF,HWF.out,hs,he⟩,hBr⟩
      ·obtain⟨a',c',h1⟩:=(hG.own s).form
       have h2:=hG.own s
       rw[h1] at h2
       exact⟨a',c',h1,h2.slice dN⟩
      ·obtain⟨a',c',h1⟩:=(hE.own s).form
       have h2:=hE.own s
       rw[h1] at h2
       exact⟨a',c',h1,h2.slice xJ⟩
end Go.Proofs.YtengfapcaaacaaaGreatDoor
