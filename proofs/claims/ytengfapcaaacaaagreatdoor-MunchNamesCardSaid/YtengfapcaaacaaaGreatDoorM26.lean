/- The texts of N26, in few letters (mini.py). -/
import Derived.Test.YtengfapcaaacaaaGreatDoorM25
import Derived.Test.YtengfapcaaacaaaGreatDoorM20
import Derived.Test.YtengfapcaaacaaaGreatDoorM21
set_option linter.unusedVariables false
set_option linter.unusedSimpArgs false
set_option maxHeartbeats 2000000
namespace Go.Proofs.YtengfapcaaacaaaGreatDoor
section
open Go.RowKit Go.Shelf
attribute [local go_sem] Oper.semAt_some
section
variable {F:Fence} {n:Nat} {P:Program} {ops:Array Oper} {Q:Exit→Act→World→Prop} {md:Region.Mode} {fuel:Nat} {listed:Array Bool} {a:Act} {w:World}
theorem aaw(i j:Nat)(hr:Region.ready md ops listed=[i,j])(h1:wpOpIn F n P ops Q i (wpAnyIn F n P md ops Q fuel (listed.setIfInBounds i true)) a w)(h2:wpOpIn F n P ops Q j (wpAnyIn F n P md ops Q fuel (listed.setIfInBounds j true)) a w):wpAnyIn F n P md ops Q (fuel+1) listed a w:=by
 refine⟨fun h=>(by rw[hr] at h;cases h),fun k hk=>?_⟩
 rw[hr,List.mem_cons,List.mem_singleton] at hk
 rcases hk with rfl | rfl
 ·exact h1
 ·exact h2
theorem BH(i:Nat)(hr:Region.ready md ops listed=[i])(h1:wpOpIn F n P ops Q i (wpAnyIn F n P md ops Q fuel (listed.setIfInBounds i true)) a w):wpAnyIn F n P md ops Q (fuel+1) listed a w:=by
 refine⟨fun h=>(by rw[hr] at h;cases h),fun k hk=>?_⟩
 rw[hr,List.mem_singleton] at hk
 subst hk
 exact h1
theorem LW(hr:Region.ready md ops listed=[])(h:Q .normal a w):wpAnyIn F n P md ops Q 0 listed a w:=⟨hr,h⟩
theorem zL{i:Nat}{K:Act→World→Prop}{o:Oper}(hi:ops[i]?=some o)(hw:Region.wanted o (yielded ops a.tmps)=true)(h:o.wpIn F n P a w K Q):wpOpIn F n P ops Q i K a w:=by
 unfold wpOpIn
 simp only[hi,hw,if_true]
 exact h
end
def yh(acc:List (List UInt8×Tr))(x:Nat×List UInt8):Sum (Nat×Nat) (List (List UInt8×Tr)) :=
 if x.2.length=0∨x.2.getD 0 0=35 then .inr acc else match zB 4096 (acc.map (·.1)) x.2 with
  | none=>.inr acc
  | some (.inl q)=>.inl (q.1,q.2+x.1)
  | some (.inr y)=>.inr (acc++[y])
def uy(acc:List (List UInt8×Tr)):List (Nat×List UInt8)→Sum (Nat×Nat) (List (List UInt8×Tr))
 | []=>.inr acc
 | x::L=>match yh acc x with
  | .inl q=>.inl q
  | .inr acc'=>uy acc' L
def zD(l:List UInt8):Sum (Nat×Nat) (List (List UInt8×Tr)):=if 65536<l.length then .inl (4,65536) else uy [] (uh l)
theorem GR(acc:List (List UInt8×Tr))(L M:List (Nat×List UInt8)):uy acc (L++M)=match uy acc L with
  | .inl q=>.inl q
  | .inr a=>uy a M:=by
 induction L generalizing acc with
 | nil=>rfl
 | cons x L ih =>
  rw[List.cons_append,uy,uy]
  cases yh acc x with
  | inl q=>rfl
  | inr a=>exact ih a
theorem aax{N:Nat}{hv:List (List UInt8)}{s:List UInt8}{y:List UInt8×Tr}(h:zB N hv s=some (.inr y)):hv.length≠64:=by
 rw[xW] at h
 cases hh:sH hv s with
 | inl q=>rw[hh] at h;cases h
 | inr nm=>exact(Gl hh).2.2.1
def ajX(w:World)(ans:Sum (Nat×Nat) (List (List UInt8×Tr)))(e:Ending)(w':World):Prop:=Below w.heap.size w w'∧match ans with
 | .inl q=>e=.returned (.tuple #[.slice none 0 0,dZ q.1 q.2])
 | .inr L=>∃ (a:Option Addr) (cap:Nat) (Rs:List (List UInt8×Vt)),e=.returned (.tuple #[.slice a Rs.length cap,dZ 0 0])∧(Rs.map fun x=>(x.1,x.2.tr))=L∧Own w' w.heap.size 117 9 jc (.slice a Rs.length cap) Rs∧(∀ i (h:i<Rs.length),Lies w' Rs[i].2∧On (fun b=>w.heap.size≤b∧(Value.slice a Rs.length cap).ownBlock≠some b) Rs[i].2)
theorem Lies.VT{w:World}{V:Vt}(h:Lies w V):On (fun b=>∃ o:Obj,w.heap[b]?=some o∧o.isCells=true) V:=by
 induction h with
 | mk k s a cap kids lo hi _ _ _ hs _ ih =>
  refine .mk k s a cap kids lo hi (fun h0 ad ha=>?_) fun i hi=>ih i hi
  subst ha
  obtain⟨b,o,_,_,_,h4,h5⟩:=hs.open
  obtain rfl:=Option.some.inj (h4 0 h0)
  have hl:0<(kids[0].cells).length:=by rw[Vt.bI];decide
  exact cells_of_cell (h5 0 h0 0 _ (List.getElem?_eq_getElem hl))
theorem rC.X0{w w':World}{r qB:Nat}{a:Option Addr}{cap:Nat}{Rs:List (List UInt8×Vt)}{m:Nat}(h:rC w r qB a cap Rs m){row:Option Nat}(hg:w.grownBy w' row)(hr:∀ k,row=some k→qB≤k∧∃ o:Obj,w.heap[k]?=some o∧o.isCells=false):rC w' r qB a cap Rs m:=by
 have hlt:=h.lt
 have hc:∀ b,(∃ o:Obj,w.heap[b]?=some o∧o.isCells=true)→w'.heap[b]?=w.heap[b]?:=fun b ⟨o,ho,hc⟩=>hg.block b (Array.getElem?_eq_some_iff.1 ho).1 fun e=>by
  obtain⟨_,o',h1,h2⟩:=hr b e.symm
  rw[ho] at h1
  cases h1
  rw[hc] at h2;cases h2
 refine⟨(hc r ⟨_,h.box,rfl⟩).trans h.box,h.own.fC fun g hgg=>?_,h.map.same (hg.block m h.map.lt fun e=>by have:=(hr m e.symm).1;omega),fun i hi=>(h.lies i hi).eH (h.lies i hi).VT hc,h.on,hlt⟩
 obtain⟨_,c,hb⟩:=h.own.block g hgg
 exact hc g ⟨_,hb,rfl⟩
theorem dH.X0{r m:Nat}{w0 w w':World}(h:dH r m (.slice none 0 0) w0 w){row:Option Nat}(hg:w.grownBy w' row)(hr:∀ k,row=some k→w0.heap.size≤k):dH r m (.slice none 0 0) w0 w' :=
 ⟨hg.os.trans h.os,hg.tape.trans h.tape,hg.output.trans h.output,Nat.le_trans h.size hg.size,fun b hb h1 h2 h3=>(hg.block b (Nat.lt_of_lt_of_le hb h.size) fun e=>by have:=hr b e.symm;omega).trans (h.block b hb h1 h2 h3)⟩
theorem dH.from{w w':World}{r qB:Nat}{a:Option Addr}{cap:Nat}{Rs:List (List UInt8×Vt)}{m:Nat}(hR:rC w r qB a cap Rs m)(hk:dH r m (.slice a Rs.length cap) w w'):KeepsFrom qB w w':=⟨hk.size,fun k o hb h1 h2=>by
 have hlt:=hR.lt
 refine(hk.block k (Array.getElem?_eq_some_iff.1 h1).1 (by omega) (by omega) fun e=>?_).trans h1
 obtain⟨_,c,hb2⟩:=hR.own.block k e
 rw[show w.heap[k]?=_ from hb2] at h1
 cases h1;cases h2⟩
theorem dH.ajY{w w':World}{r qB:Nat}{a:Option Addr}{cap:Nat}{Rs:List (List UInt8×Vt)}{m:Nat}{X:Nat→Prop}(hR:rC w r qB a cap Rs m)(hk:dH r m (.slice a Rs.length cap) w w')(hX:∀ k,¬ X k→k<qB∧k≠r∧k≠m):aQ X w w':=⟨hk.size,fun b hb _ _ _ e=>by
 obtain⟨h1,h2,h3⟩:=hX b hb
 exact(hk.block b (Array.getElem?_eq_some_iff.1 e).1 h2 h3 fun e2=>by have:=(hR.lg b e2).1;omega).trans e⟩
theorem LX{w w':World}{D:Nat}(hg:w.grownBy w' (some D))(hD:∃ o:Obj,w.heap[D]?=some o∧o.isCells=false):∀ b:Nat,(∃ o:Obj,w.heap[b]?=some o∧o.isCells=true)→w'.heap[b]?=w.heap[b]?:=fun b ⟨o,ho,hc⟩=>hg.block b (Array.getElem?_eq_some_iff.1 ho).1 fun e=>by
 obtain⟨o',h1,h2⟩:=hD
 cases e
 rw[ho] at h1
 cases h1
 rw[hc] at h2;cases h2
theorem LY{W:World}{b0 b1 n c:Nat}{a:Option Addr}{c1:Array Value}{tmps:Array Value}(h0:Box W b0 #[.slice a n c] 64)(h1:Box W b1 c1 66)(e1:c1.size=2)(t2:tmps.getD 2 undef=.pointer (some ⟨b0,0,none⟩))(t3:tmps.getD 3 undef=.pointer (some ⟨b1,0,none⟩)) :
  (results Tryz.f35 tmps).run Tryz.prog W=.ok (.tuple #[.slice a n c,.agg c1]) W:=by
 have t2':tmps[2]?.getD undef=.pointer (some ⟨b0,0,none⟩):=by simpa using t2
 have t3':tmps[3]?.getD undef=.pointer (some ⟨b1,0,none⟩):=by simpa using t3
 have c0:=h0.cell 0
 have hl:(loadVar 64 ⟨b0,0,none⟩).run Tryz.prog W=.ok (.slice a n c) W:=by go_simp
 have h2:=run_loadVar_row (P:=Tryz.prog) W b1 66 66 c1 (0,0) _ h1 Tryz.underlying66 rfl (by rw[e1];kernel_rfl)
 simp[results,Tryz.f35,t2',t3',asAddr,hl,h2]
abbrev Qe(l:List UInt8):={ x:Nat×List UInt8 // GN l x }
def RdI(l:List UInt8)(r m:Nat)(W0:World)(pre:List (Qe l))(W:World):Prop:=∃ a cap Rs,uy [] (pre.map (·.val))=.inr (Rs.map fun x=>(x.1,x.2.tr))∧Rs.length≤64∧rC W r W0.heap.size a cap Rs m∧dH r m (.slice none 0 0) W0 W
def RdX(l:List UInt8)(b0:Nat)(w:World)(c:Code)(pre:List (Qe l))(W:World):Prop:=c=.ret∧∃ q,uy [] (pre.map (·.val))=.inl q∧Box W b0 #[.slice none 0 0] 64∧Box W (b0+1) #[.int .i64 q.1,.int .i64 q.2] 66∧Below b0 w W
theorem RdI.own{l:List UInt8}{r m:Nat}{W0:World}:OwnFrom W0.heap.size (RdI l r m W0):=fun _ _ _ _ ⟨a,cap,Rs,h1,h2,h3,h4⟩ hg hr =>
 ⟨a,cap,Rs,h1,h2,h3.X0 hg hr,h4.X0 hg fun k e=>(hr k e).1⟩
theorem RdX.own{l:List UInt8}{b0 B:Nat}{w:World}{c:Code}(hb:b0+1<B):OwnFrom B (RdX l b0 w c):=fun _ _ _ _ ⟨h1,q,h2,h3,h4,h5⟩ hg hr =>
 ⟨h1,q,h2,(hg.block _ h3.lt fun e=>by have:=(hr _ e.symm).1;omega).trans h3,(hg.block _ h4.lt fun e=>by have:=(hr _ e.symm).1;omega).trans h4,h5.trans ⟨hg.os,hg.tape,hg.output,hg.size,fun k hk=>hg.block k (by have:=h3.lt;omega) fun e=>by have:=(hr _ e.symm).1;omega⟩⟩
set_option maxRecDepth 100000 in
theorem aaz(g:Nat×Nat)(m c:Nat)(l:List UInt8)(w:World)(hS:ak w (.slice (some ⟨g.1,g.2,none⟩) m c) 1 bK l)(hg:g.1<w.heap.size)(hM:∃ k,w.cell? ⟨0,0,none⟩=some (.int .i64 k))(h0:0<w.heap.size)(hl:l.length≤65536)(Sj:OG l) :
  Calls Tryz.prog 35 #[.slice (some ⟨g.1,g.2,none⟩) m c] w (ajX w (zD l)):=by
 have hml:=hS.cellsA.1
 have hmm:=@run_makeMap Tryz.prog
 have e1:decide (65536<(m:Int))=false:=by simp;omega
 have HML:=ah hml
 have HS:=ah hS
 have zi:=ah Sj
 clear hml hS Sj
 refine(callsIn_wide (n:=6)).1 ?_
 refine callsIn_of_wp_marks Tryz.func35 rfl trivial ?_ rfl
 simp only[Tryz.ntmps35,List.size_toArray,List.length_cons,List.length_nil,Nat.reduceAdd,Nat.reduceSub,Array.replicate_succ,Array.replicate_zero,List.push_toArray,List.append_toArray,List.nil_append,List.cons_append]
 gi_wp2
 refine wpIn_wide.2 (wp_scope_straight ((wpIn_wide (n:=6)).1 ?_))
 gi_wp2
 refine wpIn_label ?_
 gi_wp2_with (refine⟨trivial,?_⟩;gi_at_call 62;refine(callsIn_wide.2 (XZ _ _ ⟨_,_,_,rfl⟩)).mono ?_;rintro e w' ⟨rfl,rfl⟩)
 obtain⟨W0,hW0⟩:∃ W0,(((((w.alloc (.cells #[.slice none 0 0] 64)).alloc (.cells #[.int .i64 0,.int .i64 0] 66)).alloc (.map #[] 0)).alloc (.cells #[.slice none 0 0,.map (some (w.heap.size+1+1))] 103)).alloc (.cells #[.slice (some ⟨g.1,g.2,none⟩) m c] 35))=W0:=⟨_,rfl⟩
 have hsz0:W0.heap.size=w.heap.size+1+1+1+1+1:=by rw[←hW0];simp
 have hB0:Below w.heap.size w W0:=by rw[←hW0];exact(((((Below.refl _ w).alloc (Nat.le_refl _) _).alloc (by simp) _).alloc (by simp;omega) _).alloc (by simp;omega) _).alloc (by simp;omega) _
 have b0:Box W0 w.heap.size #[.slice none 0 0] 64:=by rw[←hW0];exact((((Box.new' rfl _ _).alloc _).alloc _).alloc _).alloc _
 have b1:Box W0 (w.heap.size+1) #[.int .i64 0,.int .i64 0] 66:=by rw[←hW0];exact(((Box.new' (by simp) _ _).alloc _).alloc _).alloc _
 have b2:aJ W0 (w.heap.size+1+1) (fun s:List UInt8=>sv s) []:=by rw[←hW0];exact((aJ.new' (by simp) _).alloc _).alloc _
 have b3:Box W0 (w.heap.size+1+1+1) #[.slice none 0 0,.map (some (w.heap.size+1+1))] 103:=by rw[←hW0];exact(Box.new' (by simp) _ _).alloc _
 have b4:Box W0 (w.heap.size+1+1+1+1) #[.slice (some ⟨g.1,g.2,none⟩) m c] 35:=by rw[←hW0];exact Box.new' (by simp) _ _
 rw[hW0]
 clear hW0
 have hS0:=HS.out.kept hB0
 have hM0:∃ k,W0.cell? ⟨0,0,none⟩=some (.int .i64 k):=by
  obtain⟨k,hk⟩:=hM
  exact⟨k,(World.cell?_of_block (a:=⟨0,0,none⟩) (hB0.block 0 h0)).trans hk⟩
 obtain⟨k0,hk0⟩:=hM0
 have hst:=U3 5 (w.heap.size+1+1+1+1) g m c l (by rw[HML.out];exact hl) (fun k=>¬ (k=w.heap.size+1+1+1+1∨k=g.1∨k=0)) ⟨fun h=>h (.inl rfl),fun h=>h (.inr (.inl rfl)),fun h=>h (.inr (.inr rfl))⟩ W0 ⟨k0,hk0⟩ b4 hS0
 have hR0:rC W0 (w.heap.size+1+1+1) W0.heap.size none 0 [] (w.heap.size+1+1):=⟨b3,Own.nil _ _ _ _ _,b2,fun i hi=>by simp at hi,fun i hi=>by simp at hi,by omega,by omega,by omega⟩
 refine wpIn_rangeFunc_ownG rfl (by decide) (gf:=97) (lb:=#[.pointer (some ⟨w.heap.size+1+1+1+1,0,none⟩)]) rfl trivial (enters_of Tryz.func97 (by kernel_rfl) rfl)
  hst (fun h k=>h.trans k) Hy (Below.refl _ _) (fun _=>rfl)
  (RdI l (w.heap.size+1+1+1) (w.heap.size+1+1) W0) (RdX l w.heap.size w) RdI.own (fun _=>RdX.own (by omega))
  ⟨none,0,[],rfl,by simp,hR0,dH.below (Below.refl _ _)⟩
  (fun x=>{ tmps:=#[.slice (some ⟨g.1,g.2,none⟩) m c,undef,.pointer (some ⟨w.heap.size,0,none⟩),.pointer (some ⟨w.heap.size+1,0,none⟩),.pointer (some ⟨w.heap.size+1+1+1,0,none⟩),.int .i64 x.1.1,.slice (some ⟨g.1,g.2+x.1.1,none⟩) x.1.2.length (c - x.1.1),undef,.slice (some ⟨g.1,g.2,none⟩) m c,.int .i64 m,.bool false,undef,.map (some (w.heap.size+1+1)),.agg #[.slice none 0 0,.map (some (w.heap.size+1+1))],.slice (some ⟨g.1,g.2,none⟩) m c,.func (.func 97) #[] #[.pointer (some ⟨w.heap.size+1+1+1+1,0,none⟩)],.int .i64 x.1.1,.slice (some ⟨g.1,g.2+x.1.1,none⟩) x.1.2.length (c - x.1.1)]++Array.replicate 23 undef,defers:=[] }) ?assign ?body ?done ?stop
 case assign =>
  intro lp x W K hK
  simp only[Array.replicate_succ,Array.replicate_zero,List.push_toArray,List.append_toArray,List.nil_append,List.cons_append] at hK
  unfold aeL
  go_simp
  gi_wp2
  exact hK
 case body =>
  rintro lp pre ⟨⟨at',s⟩,hx⟩ W ⟨a,cap,Rs,hf,h64,hR,hK⟩ hlt
  have hx1:at'+s.length≤l.length:=hx.1
  have hx2:s=(l.drop at').take s.length:=hx.2
  have hstep:uy [] ((pre++[(⟨(at',s),hx⟩:Qe l)]).map (·.val))=yh (Rs.map fun x=>(x.1,x.2.tr)) (at',s):=by
   rw[List.map_append,GR,hf]
   show uy _ [(at',s)]=_
   rw[uy]
   cases yh (Rs.map fun x=>(x.1,x.2.tr)) (at',s) <;> rfl
  simp only[Array.replicate_succ,Array.replicate_zero,List.push_toArray,List.append_toArray,List.nil_append,List.cons_append]
  have hm:=HML.out
  have hlt0:=hR.lt
  have hWs:=hK.size
  have hSW:ak W (.slice (some ⟨g.1,g.2,none⟩) m c) 1 bK l:=hS0.eH fun _ ad e=>by
   cases e
   exact hK.block g.1 (by omega) (by omega) (by omega) (fun e=>by cases e)
  obtain⟨_,hmc,hc63,hcell⟩:=hSW.cellsA
  have HST:=ah hstep
  by_cases hs0:s.length=0
  ·have e0:((s.length:Int)==0)=true:=by rw[hs0];rfl
   have hst2:yh (Rs.map fun x=>(x.1,x.2.tr)) (at',s)=.inr (Rs.map fun x=>(x.1,x.2.tr)):=by unfold yh;rw[if_pos (.inl hs0)]
   rw[hst2] at HST
   have HRR:=ah (show rC _ _ _ _ _ _ _∧dH _ _ _ _ _ from⟨hR,hK⟩)
   clear hst2 hs0 hcell hSW hx2 hR hK hm hmc hstep
   gi_wp2
   exact⟨KeepsFrom.refl _ _,aQ.refl _ _,a,cap,Rs,HST.out,h64,HRR.out.1,HRR.out.2⟩
  ·have e0:((s.length:Int)==0)=false:=by rw[beq_eq_false_iff_ne];omega
   have ap2:0<s.length:=by omega
   have hy:=hcell at' (by omega) W (Below.refl _ _)
   have hsg:l[at']'(by omega)=s.getD 0 0:=by
    refine Eq.symm ((congrArg (fun z:List UInt8=>z.getD 0 0) hx2).trans ?_)
    show((l.drop at').take s.length).getD 0 0=_
    rw[List.getD_eq_getElem?_getD,List.getElem?_take,if_pos (by omega),List.getElem?_drop,Nat.add_zero,List.getElem?_eq_getElem (by omega:at'<l.length),Option.getD_some]
   rw[hsg] at hy
   by_cases h35:s.getD 0 0=35
   ·have hst2:yh (Rs.map fun x=>(x.1,x.2.tr)) (at',s)=.inr (Rs.map fun x=>(x.1,x.2.tr)):=by unfold yh;rw[if_pos (.inr h35)]
    rw[hst2] at HST
    rw[h35] at hy
    have y0:W.cell? ⟨g.1,g.2+at',none⟩=some (.int .u8 35):=hy
    have HRR:=ah (show rC _ _ _ _ _ _ _∧dH _ _ _ _ _ from⟨hR,hK⟩)
    clear hst2 hs0 hcell hSW hx2 hR hK hm hmc hy hsg h35 hstep
    gi_wp2
    exact⟨KeepsFrom.refl _ _,aQ.refl _ _,a,cap,Rs,HST.out,h64,HRR.out.1,HRR.out.2⟩
   ·have hne:(((s.getD 0 0).toNat:Int)==35)=false:=by
     rw[beq_eq_false_iff_ne]
     intro e
     refine h35 (UInt8.toNat_inj.1 ?_)
     have:(s.getD 0 0).toNat=35:=by omega
     rw[this];rfl
    have hst2:yh (Rs.map fun x=>(x.1,x.2.tr)) (at',s)=match zB 4096 (Rs.map (·.1)) s with
      | none=>.inr (Rs.map fun x=>(x.1,x.2.tr))
      | some (.inl q)=>.inl (q.1,q.2+at')
      | some (.inr y)=>.inr ((Rs.map fun x=>(x.1,x.2.tr))++[y]):=by
     unfold yh
     rw[if_neg (by rintro(h | h);exact hs0 h;exact h35 h),List.map_map]
     rfl
    rw[hst2] at HST
    have hsub:=ak.sub (f:=fun x:UInt8=>Value.int .u8 x.toNat) hSW at' s.length (by omega)
    rw[←hx2] at hsub
    unfold CB at hsub
    rw[if_neg (by omega)] at hsub
    generalize s.getD 0 0=ch at *
    cases hP:zB 4096 (Rs.map (·.1)) s with
    | none=>exact absurd hP (XM _ _)
    | some P =>
     rw[hP] at HST
     have hqa:=fun q (e:P=.inl q)=>acV (q:=q) (by omega:s.length≤65536) (by rw[←e];exact hP)
     have hln:=afZ 4096 (by decide) (w.heap.size+1+1+1) W0.heap.size a cap Rs (w.heap.size+1+1) (g.1,g.2+at') s.length (c - at') s W hR hsub (by omega) h64 (by show g.1<_;omega) hWs (zi.out.of fun b hb=>by rw[hx2] at hb;exact List.mem_of_mem_drop (List.mem_of_mem_take hb)) P hP (fun q e=>by have:=(hqa q e).1;omega)
     have rD:=fun y (e:P=.inr y)=>aax (y:=y) (by rw[←e];exact hP)
     have ama:=ah rD
     have uK:=ah hln
     have HRR:=ah (show rC _ _ _ _ _ _ _∧dH _ _ _ _ _ from⟨hR,hK⟩)
     have HQA:=ah hqa
     have y0:=hy
     have ap3:at'≤65536:=by omega
     have ahK:∀ k,¬ ¬ (k=w.heap.size+1+1+1+1∨k=g.1∨k=0)→k<W0.heap.size∧k≠w.heap.size+1+1+1∧k≠w.heap.size+1+1:=fun k h=>by
      rcases Classical.not_not.1 h with h | h | h <;> omega
     have HBC:=ah ahK
     clear hst2 hs0 hcell hSW hx2 hR hK hm hmc hy hsg h35 hstep hP hln hqa hsub ahK rD
     cases P with
     | inl q =>
      obtain⟨qk,qp⟩:=q
      have hqb:=HQA.out _ rfl
      have hqp:qp≤200000:=hqb.1
      have hqk:qk≠0:=hqb.2
      have ek:((qk:Int) != 0)=true:=by rw[bne_iff_ne];omega
      clear hqb hqk
      gi_wp2_with (refine⟨trivial,?_⟩;gi_at_call 63;refine(CallsIn.inRound lp (callsIn_wide.2 uK.out)).mono ?_;rintro e w1 ⟨rfl,hR1,hk1⟩;unfold dZ)
      have hz:=hR1.box.lt
      have hB1:=aj w1 (.cells #[.int .i64 qk,.int .i64 ((qp:Int)+(at':Int))] 66)
      have hW1:(w1.alloc (.cells #[.int .i64 qk,.int .i64 ((qp:Int)+(at':Int))] 66)).heap.size=w1.heap.size+1:=by simp
      have t7:Box (w1.alloc (.cells #[.int .i64 qk,.int .i64 ((qp:Int)+(at':Int))] 66)).drew w1.heap.size #[.int .i64 qk,.int .i64 ((qp:Int)+(at':Int))] 66:=(Box.new w1 _ _).drew
      obtain⟨hR,hK⟩:=HRR.out
      have wR:=((hK.trans (fun gg hg=>.inr (hR.lg gg hg).1) hk1).trans (yF:=.slice a Rs.length cap) (fun gg hg=>.inr (hR1.lg gg hg).1) (dH.below hB1))
      have hw1:=wR.size
      rw[hW1] at hw1
      have t2:Box (w1.alloc (.cells #[.int .i64 qk,.int .i64 ((qp:Int)+(at':Int))] 66)).drew w.heap.size #[.slice none 0 0] 64:=Box.drew ((wR.block _ (by omega) (by omega) (by omega) (fun e=>by cases e)).trans b0)
      have t3:Box (w1.alloc (.cells #[.int .i64 qk,.int .i64 ((qp:Int)+(at':Int))] 66)).drew (w.heap.size+1) #[.int .i64 0,.int .i64 0] 66:=Box.drew ((wR.block _ (by omega) (by omega) (by omega) (fun e=>by cases e)).trans b1)
      have hKF:KeepsFrom W0.heap.size W (w1.alloc (.cells #[.int .i64 qk,.int .i64 ((qp:Int)+(at':Int))] 66)).drew:=((hk1.from hR).trans ((KeepsOthers.alloc w1 _).from _)).trans (⟨Nat.le_refl _,fun _ _ _ h _=>h⟩:KeepsFrom W0.heap.size (w1.alloc (.cells #[.int .i64 qk,.int .i64 ((qp:Int)+(at':Int))] 66)) (w1.alloc (.cells #[.int .i64 qk,.int .i64 ((qp:Int)+(at':Int))] 66)).drew)
      have hBb:Below w.heap.size w (w1.alloc (.cells #[.int .i64 qk,.int .i64 ((qp:Int)+(at':Int))] 66)).drew:=(hB0.trans ⟨wR.os,wR.tape,wR.output,wR.size,fun k hk=>wR.block k (by omega) (by omega) (by omega) (fun e=>by cases e)⟩).trans (Below.refl _ _).drew
      refine wpIn_region_any (by kernel_rfl) ?_
      change wpAnyIn _ _ _ _ _ _ _ _ _ (w1.alloc (.cells #[.int .i64 qk,.int .i64 ((qp:Int)+(at':Int))] 66)).drew
      generalize (w1.alloc (.cells #[.int .i64 qk,.int .i64 ((qp:Int)+(at':Int))] 66)).drew=W2 at *
      have c70:=t7.cell 0;have c71:=t7.cell 1;have c20:=t2.cell 0;have f20:=t2.free 0;have c30:=t3.cell 0;have c31:=t3.cell 1;have f30:=t3.free 0;have f31:=t3.free 1
      have hfin:KeepsFrom W0.heap.size W (((W2.setCell ⟨w.heap.size,0,none⟩ (.slice none 0 0)).setCell ⟨w.heap.size+1,0,none⟩ (.int .i64 qk)).setCell ⟨w.heap.size+1,1,none⟩ (.int .i64 ((qp:Int)+(at':Int))))∧RdX l w.heap.size w .ret (pre++[(⟨(at',s),hx⟩:Qe l)]) (((W2.setCell ⟨w.heap.size,0,none⟩ (.slice none 0 0)).setCell ⟨w.heap.size+1,0,none⟩ (.int .i64 qk)).setCell ⟨w.heap.size+1,1,none⟩ (.int .i64 ((qp:Int)+(at':Int)))):=by
       refine⟨((hKF.trans ((KeepsOthers.setCell _ _ _).from _)).trans ((KeepsOthers.setCell _ _ _).from _)).trans ((KeepsOthers.setCell _ _ _).from _),rfl,(qk,qp+at'),HST.out,((t2.set 0 (.slice none 0 0)).other _ _ (by simp)).other _ _ (by simp),?_,((hBb.setCell (p:=⟨w.heap.size,0,none⟩) (by simp) _).setCell (p:=⟨w.heap.size+1,0,none⟩) (by simp) _).setCell (p:=⟨w.heap.size+1,1,none⟩) (by simp) _⟩
       rw[show((qk,qp+at').2:Nat)=qp+at' from rfl,show(((qp+at':Nat)):Int)=(qp:Int)+(at':Int) by omega]
       exact((t3.other ⟨w.heap.size,0,none⟩ (.slice none 0 0) (by simp)).set 0 (.int .i64 qk)).set 1 (.int .i64 ((qp:Int)+(at':Int)))
      have yU:=ah hfin
      clear hfin hKF hBb wR hR hK
      refine aaw 0 1 (by kernel_rfl) ?_ ?_
      ·refine zL rfl (by rfl) ?_
       gi_step
       refine BH 1 (by kernel_rfl) ?_
       refine zL rfl (by rfl) ?_
       gi_step
       refine BH 2 (by kernel_rfl) ?_
       refine zL rfl (by rfl) ?_
       gi_step
       refine LW (by kernel_rfl) ?_
       gi_wp2
       exact yU.out
      ·refine zL rfl (by rfl) ?_
       gi_step
       refine BH 0 (by kernel_rfl) ?_
       refine zL rfl (by rfl) ?_
       gi_step
       refine BH 2 (by kernel_rfl) ?_
       refine zL rfl (by rfl) ?_
       gi_step
       refine LW (by kernel_rfl) ?_
       gi_wp2
       exact yU.out
     | inr y =>
      gi_wp2_with (refine⟨trivial,?_⟩;gi_at_call 63;refine(CallsIn.inRound lp (callsIn_wide.2 uK.out)).mono ?_;rintro e w1 ⟨a',cap',V,rfl,hV,hR1,hk1,hf1⟩;unfold dZ)
      have hB1:=aj w1 (.cells #[.int .i64 0,.int .i64 0] 66)
      have hl1:(Rs++[(y.1,V)]).length=Rs.length+1:=by simp
      obtain⟨hR,hK⟩:=HRR.out
      have rD:Rs.length≠64:=by have:=ama.out y rfl;simpa using this
      refine⟨(hk1.from hR).trans ((KeepsOthers.alloc w1 _).from _),(hk1.ajY hR HBC.out).trans (aQ.below hB1),a',cap',Rs++[(y.1,V)],HST.out.trans ?_,by omega,hR1.kept hB1,(hK.trans (fun gg hg=>.inr (hR.lg gg hg).1) hk1).trans (fun gg hg=>.inr ?_) (dH.below (ov:=.slice a' (Rs.length+1) cap') hB1)⟩
      ·rw[List.map_append]
       show Sum.inr (_++[y])=Sum.inr (_++[(y.1,V.tr)])
       rw[hV]
      ·exact(hR1.lg gg (by rw[hl1];exact hg)).1
 case done =>
  intro Dd xs W hD hS1 ⟨a,cap,Rs,hf,h64,hR,hK⟩ X3
  have hS1:xs.map (·.val)=uh l:=hS1
  rw[hS1] at hf
  have hans:zD l=.inr (Rs.map fun x=>(x.1,x.2.tr)):=by unfold zD;rw[if_neg (by omega)];exact hf
  have hWs:=hK.size
  have t2:Box W w.heap.size #[.slice none 0 0] 64:=(hK.block _ (by omega) (by omega) (by omega) (fun e=>by cases e)).trans b0
  have t3:Box W (w.heap.size+1) #[.int .i64 0,.int .i64 0] 66:=(hK.block _ (by omega) (by omega) (by omega) (fun e=>by cases e)).trans b1
  have hBW:Below w.heap.size w W:=hB0.trans ⟨hK.os,hK.tape,hK.output,hK.size,fun k hk=>hK.block k (by omega) (by omega) (by omega) (fun e=>by cases e)⟩
  have c0:=hR.box.cell 0
  have c20:=t2.cell 0;have f20:=t2.free 0;have c30:=t3.cell 0;have c31:=t3.cell 1;have f30:=t3.free 0;have f31:=t3.free 1
  have lq:=ah hans
  have HR:=ah hR
  clear hS1 hf hans hR
  gi_wp2
  have hbb:∀ x,W0.heap.size≤x→(((W.setCell ⟨w.heap.size,0,none⟩ (.slice a Rs.length cap)).setCell ⟨w.heap.size+1,0,none⟩ (.int .i64 0)).setCell ⟨w.heap.size+1,1,none⟩ (.int .i64 0)).heap[x]?=W.heap[x]?:=fun x hx =>
   (heap_setCell_other _ ⟨w.heap.size+1,1,none⟩ x _ (by show x≠w.heap.size+1;omega)).trans ((heap_setCell_other _ ⟨w.heap.size+1,0,none⟩ x _ (by show x≠w.heap.size+1;omega)).trans (heap_setCell_other _ ⟨w.heap.size,0,none⟩ x _ (by show x≠w.heap.size;omega)))
  have u2:=((t2.set 0 (.slice a Rs.length cap)).other ⟨w.heap.size+1,0,none⟩ (.int .i64 0) (by simp)).other ⟨w.heap.size+1,1,none⟩ (.int .i64 0) (by simp)
  have u3:=((t3.other ⟨w.heap.size,0,none⟩ (.slice a Rs.length cap) (by simp)).set 0 (.int .i64 0)).set 1 (.int .i64 0)
  have hBf:=((hBW.setCell (p:=⟨w.heap.size,0,none⟩) (by simp) (.slice a Rs.length cap)).setCell (p:=⟨w.heap.size+1,0,none⟩) (by simp) (.int .i64 0)).setCell (p:=⟨w.heap.size+1,1,none⟩) (by simp) (.int .i64 0)
  have hR:=HR.out
  have ahL:=hR.own.fC fun gg hgg=>hbb gg (hR.lg gg hgg).1
  have lf:=fun i hi=>(hR.lies i hi).eH (hR.on i hi) fun x hx=>hbb x hx.1
  have hDf:=(hbb Dd hD).trans X3
  generalize (((W.setCell ⟨w.heap.size,0,none⟩ (.slice a Rs.length cap)).setCell ⟨w.heap.size+1,0,none⟩ (.int .i64 0)).setCell ⟨w.heap.size+1,1,none⟩ (.int .i64 0))=Wf at *
  have Dz:=grownBy_putObj' Wf Dd (.deferred none)
  have hct:=LX Dz ⟨_,hDf,rfl⟩
  refine⟨by simp,.inl ⟨_,_,rfl,run_takeDeferred hDf,?_⟩⟩
  have v2:Box (Wf.putObj Dd (.deferred none)) w.heap.size #[.slice a Rs.length cap] 64:=(hct _ ⟨_,u2,rfl⟩).trans u2
  have v3:Box (Wf.putObj Dd (.deferred none)) (w.heap.size+1) #[.int .i64 0,.int .i64 0] 66:=(hct _ ⟨_,u3,rfl⟩).trans u3
  refine⟨_,LY v2 v3 rfl rfl rfl,hBf.trans ⟨Dz.os,Dz.tape,Dz.output,Dz.size,fun k hk=>Dz.block k (by have:=hBf.size;omega) (fun e=>by cases e;omega)⟩,?_⟩
  rw[lq.out]
  refine⟨a,cap,Rs,rfl,rfl,(ahL.fC fun gg hgg=>?_).mono (by omega),fun i hi=>⟨(lf i hi).eH (lf i hi).VT hct,(hR.on i hi).mono fun x hx=>⟨by omega,hx.2⟩⟩⟩
  obtain⟨_,cc,hbx⟩:=ahL.block gg hgg
  exact hct gg ⟨_,hbx,rfl⟩
 case stop =>
  rintro Dd c1 pre W hD hpre ⟨rfl,q,hf,t2,t3,hBW⟩ X3
  have hans:zD l=.inl q:=by
   unfold zD
   rw[if_neg (by omega)]
   obtain⟨post,hp⟩:=(hpre:pre.map (·.val) <+: uh l)
   rw[←hp,GR,hf]
  have lq:=ah hans
  clear hans hf hpre
  gi_wp2
  have Dz:=grownBy_putObj' W Dd (.deferred none)
  have hct:=LX Dz ⟨_,X3,rfl⟩
  refine⟨by simp,.inl ⟨_,_,rfl,run_takeDeferred X3,?_⟩⟩
  have v2:Box (W.putObj Dd (.deferred none)) w.heap.size #[.slice none 0 0] 64:=(hct _ ⟨_,t2,rfl⟩).trans t2
  have v3:Box (W.putObj Dd (.deferred none)) (w.heap.size+1) #[.int .i64 q.1,.int .i64 q.2] 66:=(hct _ ⟨_,t3,rfl⟩).trans t3
  refine⟨_,LY v2 v3 rfl rfl rfl,hBW.trans ⟨Dz.os,Dz.tape,Dz.output,Dz.size,fun k hk=>Dz.block k (by have:=hBW.size;omega) (fun e=>by cases e;omega)⟩,?_⟩
  rw[lq.out]
  rfl
end
section
open Go.RowKit
def cu(sets:List (List Nat))(l:List Nat):Nat×List (List Nat):=match sets.idxOf? l with | some k=>(k,sets) | none=>(sets.length,sets++[l])
def rowP(y:Nf)(most:Nat)(l:List Nat):List Nat→List (List Nat)→List Int→Option (List (List Nat)×List Int)
 | [],sets,row=>some (sets,row)
 | c::low,sets,row =>
  let r:=cu sets (gZ y l c)
  if most<r.2.length then none else rowP y most l low r.2 (row++[(r.1:Int)])
def jQ(y:Nf)(most:Nat)(low:List Nat):Nat→Nat→List (List Nat)→List (List Int)→Option (List (List Nat)×List (List Int))
 | 0,_,sets,next=>some (sets,next)
 | f+1,i,sets,next=>if i<sets.length then (match rowP y most (sets.getD i []) low sets [] with
   | none=>none
   | some (BI,row)=>jQ y most low f (i+1) BI (next++[row])) else some (sets,next)
def iG(y:Nf)(l:List Nat):Int:=match (List.range 65).find? fun k=>decide (0<k)&&l.any fun s=>y.accept.getD s 0==k with | some k=>(k:Int) | none=>0
end
section
open Go.RowKit
structure jo where
 m:Nat
 st:Nat
 of:Nat→Nat
 lo:Value
 tb:Nat
 sv:Value
 nv:Value
def dB(B:jo):Array Value:=(#[Value.pointer (some ⟨B.m,0,none⟩),.int .i64 B.st]++aS B.of)++#[B.lo,.pointer (some ⟨B.tb,0,none⟩),B.sv,B.nv]
theorem uj(B:jo):(dB B).size=262:=by unfold dB;rw[Array.size_append,Array.size_append,aV];rfl
theorem CU(B:jo)(i:Nat)(h:i<2):(dB B)[i]?=(#[Value.pointer (some ⟨B.m,0,none⟩),.int .i64 B.st])[i]?:=by
 unfold dB
 rw[Array.getElem?_append_left (by rw[Array.size_append,aV];show i<2+256;omega),Array.getElem?_append_left (by exact h)]
theorem uU(B:jo)(i:Nat)(h:i<256):(dB B)[2+i]?=some (.int .u8 (B.of i:Nat)):=by
 unfold dB
 rw[Array.getElem?_append_left (by rw[Array.size_append,aV];show 2+i<2+256;omega),Array.getElem?_append_right (by show 2≤2+i;omega)]
 show(aS B.of)[2+i - 2]?=_
 rw[show 2+i - 2=i by omega,dS _ _ h]
theorem um(B:jo)(i:Nat):(dB B)[258+i]?=(#[B.lo,Value.pointer (some ⟨B.tb,0,none⟩),B.sv,B.nv])[i]?:=by
 unfold dB
 rw[Array.getElem?_append_right (by rw[Array.size_append,aV];show 2+256≤_;omega),Array.size_append,aV]
 show(#[B.lo,Value.pointer (some ⟨B.tb,0,none⟩),B.sv,B.nv])[258+i - (2+256)]?=_
 rw[show 258+i - (2+256)=i by omega]
theorem zF{B:jo}{c:Array Value}(hs:c.size=262)(h0:c[0]?=some (.pointer (some ⟨B.m,0,none⟩)))(h1:c[1]?=some (.int .i64 B.st))(ho:∀ i,i<256→c[2+i]?=some (.int .u8 (B.of i:Nat)))
  (h2:c[258]?=some B.lo) (h3:c[259]?=some (.pointer (some ⟨B.tb,0,none⟩))) (h4:c[260]?=some B.sv) (h5:c[261]?=some B.nv):c=dB B:=by
 apply Array.ext_getElem?
 intro i
 by_cases a:i<2
 ·rw[CU B i a]
  rcases Nat.lt_or_ge i 1 with e | e
  ·obtain rfl:i=0:=by omega
   exact h0
  ·obtain rfl:i=1:=by omega
   exact h1
 ·by_cases b:i<258
  ·obtain⟨j,rfl⟩:∃ j,i=2+j:=⟨i - 2,by omega⟩
   rw[uU B j (by omega),ho j (by omega)]
  ·obtain⟨j,rfl⟩:∃ j,i=258+j:=⟨i - 258,by omega⟩
   rw[um]
   by_cases d:j<4
   ·rcases Nat.lt_or_ge j 1 with e | e
    ·obtain rfl:j=0:=by omega
     exact h2
    rcases Nat.lt_or_ge j 2 with e | e
    ·obtain rfl:j=1:=by omega
     exact h3
    rcases Nat.lt_or_ge j 3 with e | e
    ·obtain rfl:j=2:=by omega
     exact h4
    ·obtain rfl:j=3:=by omega
     exact h5
   ·rw[Array.getElem?_eq_none (by omega),Array.getElem?_eq_none (by show 4≤j;omega)]
theorem jW(B:jo):(dB B)[0]?=some (.pointer (some ⟨B.m,0,none⟩)):=CU B 0 (by decide)
theorem uo(B:jo):(dB B)[1]?=some (.int .i64 B.st):=CU B 1 (by decide)
theorem uV(B:jo):(dB B)[258]?=some B.lo:=um B 0
theorem uX(B:jo):(dB B)[259]?=some (.pointer (some ⟨B.tb,0,none⟩)):=um B 1
theorem ku(B:jo):(dB B)[260]?=some B.sv:=um B 2
theorem uY(B:jo):(dB B)[261]?=some B.nv:=um B 3
theorem fA(B:jo)(k i:Nat)(v:Value)(h:k<262):((dB B).setIfInBounds k v)[i]?=if k=i then some v else (dB B)[i]?:=by
 rw[Array.getElem?_setIfInBounds,uj]
 by_cases e:k=i
 ·rw[if_pos e,if_pos e,if_pos (by omega)]
 ·rw[if_neg e,if_neg e]
theorem U4(B:jo)(v:Value):(dB B).setIfInBounds 260 v=dB { B with sv:=v }:=by
 refine zF (by rw[Array.size_setIfInBounds,uj]) ?_ ?_ ?_ ?_ ?_ ?_ ?_
 ·rw[fA _ _ _ _ (by decide),if_neg (by decide)];exact jW B
 ·rw[fA _ _ _ _ (by decide),if_neg (by decide)];exact uo B
 ·intro i hi;rw[fA _ _ _ _ (by decide),if_neg (by omega)];exact uU B i hi
 ·rw[fA _ _ _ _ (by decide),if_neg (by decide)];exact uV B
 ·rw[fA _ _ _ _ (by decide),if_neg (by decide)];exact uX B
 ·rw[fA _ _ _ _ (by decide),if_pos rfl]
 ·rw[fA _ _ _ _ (by decide),if_neg (by decide)];exact uY B
theorem U5(B:jo)(v:Value):(dB B).setIfInBounds 261 v=dB { B with nv:=v }:=by
 refine zF (by rw[Array.size_setIfInBounds,uj]) ?_ ?_ ?_ ?_ ?_ ?_ ?_
 ·rw[fA _ _ _ _ (by decide),if_neg (by decide)];exact jW B
 ·rw[fA _ _ _ _ (by decide),if_neg (by decide)];exact uo B
 ·intro i hi;rw[fA _ _ _ _ (by decide),if_neg (by omega)];exact uU B i hi
 ·rw[fA _ _ _ _ (by decide),if_neg (by decide)];exact uV B
 ·rw[fA _ _ _ _ (by decide),if_neg (by decide)];exact uX B
 ·rw[fA _ _ _ _ (by decide),if_neg (by decide)];exact ku B
 ·rw[fA _ _ _ _ (by decide),if_pos rfl]
attribute [irreducible] dB
def dM{α:Type}(w:World)(inn:Nat→Prop)(v:Value)(enc:α→List Value)(xs:List α):Prop:=ak w v 1 enc xs∧∀ a n c,v=.slice (some a) n c→inn a.block
abbrev yI:=Option Addr×Nat×Nat
abbrev uz(x:yI):List Value:=[.slice x.1 x.2.1 x.2.2]
theorem uG:fB uz 1:=⟨fun _=>rfl,fun x u hu=>by simp at hu;subst hu;rfl⟩
def pK{α:Type}(w:World)(qB E:Nat)(inn:Nat→Prop)(enc:α→List Value)(v:Value)(L:List (List α)):Prop :=
 ∃ rows:List yI,Own w qB E 1 uz v rows∧rows.length=L.length∧∀ i (h1:i<rows.length) (h2:i<L.length),∃ a c,rows[i]=(a,L[i].length,c)∧dM w inn (.slice a L[i].length c) enc L[i]
section
variable {α:Type} {w w':World} {inn JE:Nat→Prop} {v:Value} {enc:α→List Value} {xs:List α}
theorem ak.GU{size:Nat}{a:Option Addr}{n c:Nat}(h:ak w (.slice a n c) size enc xs)(hb:∀ ad,a=some ad→ad.block<w.heap.size→w'.heap[ad.block]?=w.heap[ad.block]?):ak w' (.slice a n c) size enc xs:=by
 obtain⟨a',b,o,cap,hv,hl,hc,ha,hx⟩:=h
 refine⟨a',b,o,cap,hv,hl,hc,ha,fun i hi j u hu=>?_⟩
 have h1:=hx i hi j u hu
 have h2:b<w.heap.size:=World.block_lt_of_cell? w _ h1
 rcases ha with e | ⟨e,_⟩
 ·rw[←h1]
  refine World.cell?_of_block (hb ⟨b,o,none⟩ ?_ h2)
  rw[(Value.slice.inj hv).1];exact e
 ·subst e;simp at hi
theorem dM.same(h:dM w inn v enc xs)(hb:∀ b,inn b→b<w.heap.size→w'.heap[b]?=w.heap[b]?)(hi:∀ b,inn b→JE b):dM w' JE v enc xs:=by
 obtain⟨h1,h2⟩:=h
 obtain⟨a,c,hv⟩:∃ a c,v=.slice a xs.length c:=by obtain⟨a,_,_,c,hv,_⟩:=h1;exact⟨a,c,hv⟩
 subst hv
 exact⟨h1.GU fun ad e hlt=>hb _ (h2 ad _ _ (by rw[e])) hlt,fun a' n c' e=>hi _ (h2 a' n c' e)⟩
theorem pK.same{qB E:Nat}{L:List (List α)}(h:pK w qB E inn enc v L)(hb:∀ b,inn b→b<w.heap.size→w'.heap[b]?=w.heap[b]?)(hi:∀ b,inn b→JE b)(ho:∀ g,v.ownBlock=some g→w'.heap[g]?=w.heap[g]?):pK w' qB E JE enc v L:=by
 obtain⟨rows,h1,h2,h3⟩:=h
 exact⟨rows,h1.same ho,h2,fun i a b=>by obtain⟨x,c,e,k⟩:=h3 i a b;exact⟨x,c,e,k.same hb hi⟩⟩
theorem pK.snoc{qB E:Nat}{L:List (List α)}{v':Value}{x:yI}{rows:List yI}(h1:Own w' qB E 1 uz v' (rows++[x]))(h2:rows.length=L.length)(h3:∀ i (a:i<rows.length) (b:i<L.length),∃ ad c,rows[i]=(ad,L[i].length,c)∧dM w' inn (.slice ad L[i].length c) enc L[i]){l:List α}{a:Option Addr}{c:Nat}(hx:x=(a,l.length,c))(hl:dM w' inn (.slice a l.length c) enc l):pK w' qB E inn enc v' (L++[l]):=by
 refine⟨_,h1,by simp[h2],fun i a' b'=>?_⟩
 by_cases hi:i<rows.length
 ·obtain⟨ad,c',e1,e2⟩:=h3 i hi (by omega)
  refine⟨ad,c',?_,?_⟩
  ·rw[List.getElem_append_left hi,List.getElem_append_left (by omega)];exact e1
  ·rw[List.getElem_append_left (by omega)];exact e2
 ·have hi2:i=rows.length:=by simp at a';omega
  subst hi2
  refine⟨a,c,?_,?_⟩
  ·rw[List.getElem_append_right (Nat.le_refl _)]
   simp[h2,hx]
  ·have:(L++[l])[rows.length]=l:=by rw[List.getElem_append_right (by omega)];simp[h2]
   rw[this];exact hl
end
def setOf(l:List Nat):Nat:=l.foldl (fun T i=>T ||| 1 <<< i) 0
def keyOf(n:Nat)(l:List Nat):List UInt8:=Je (cO n) (setOf l)
def yj(n:Nat)(l:List Nat):Prop:=∃ S,S<2 ^ n∧l=gQ n S
theorem yj.set{n:Nat}{l:List Nat}(h:yj n l):setOf l<2 ^ n∧l=gQ n (setOf l):=by
 obtain⟨S,h1,rfl⟩:=h
 have:=abJ n S h1
 unfold setOf
 rw[this];exact⟨h1,rfl⟩
theorem aaA{n:Nat}{l l':List Nat}(h:yj n l)(h':yj n l')(e:keyOf n l=keyOf n l'):l=l':=by
 obtain⟨h1,h2⟩:=h.set
 obtain⟨h3,h4⟩:=h'.set
 have hn:n≤64*cO n:=by unfold cO;omega
 have hp:2 ^ n≤2 ^ (64*cO n):=Nat.pow_le_pow_right (by decide) hn
 have:=abK (Nat.lt_of_lt_of_le h1 hp) (Nat.lt_of_lt_of_le h3 hp) e
 rw[h2,h4,this]
theorem LZ(n:Nat)(l:List Nat)(hl:yj n l):∀ (sets:List (List Nat)),(∀ x∈sets,yj n x)→(sets.map (keyOf n)).idxOf? (keyOf n l)=sets.idxOf? l
 | [],_=>rfl
 | x::sets,h=>by
  rw[List.map_cons,List.idxOf?_cons,List.idxOf?_cons,LZ n l hl sets fun y hy=>h y (List.mem_cons_of_mem _ hy)]
  have hx:=h x (List.mem_cons_self ..)
  have:(keyOf n x==keyOf n l)=(x==l):=by
   rw[Bool.eq_iff_iff,beq_iff_eq,beq_iff_eq]
   exact⟨fun e=>aaA hx hl e,fun e=>by rw[e]⟩
  rw[this]
end
end Go.Proofs.YtengfapcaaacaaaGreatDoor
