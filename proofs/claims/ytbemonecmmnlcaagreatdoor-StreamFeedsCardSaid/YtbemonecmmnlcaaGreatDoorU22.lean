/- The texts of T22, in few letters (mini.py). -/
import Derived.Test.YtbemonecmmnlcaaGreatDoorU21
import Derived.Test.YtbemonecmmnlcaaGreatDoorU16
set_option linter.unusedVariables false
set_option linter.unusedSimpArgs false
set_option maxHeartbeats 2000000
set_option maxRecDepth 20000
namespace Go.Proofs.YtbemonecmmnlcaaGreatDoor
section
open Go.RowKit Go.Shelf
attribute [local go_sem] Oper.semAt_some
section
variable {F:Fence} {n:Nat} {P:Program} {ops:Array Oper} {Q:Exit→Act→World→Prop} {md:Region.Mode} {fuel:Nat} {listed:Array Bool} {a:Act} {w:World}
theorem aa7(i j:Nat)(hr:Region.ready md ops listed=[i,j])(h1:wpOpIn F n P ops Q i (wpAnyIn F n P md ops Q fuel (listed.setIfInBounds i true)) a w)(h2:wpOpIn F n P ops Q j (wpAnyIn F n P md ops Q fuel (listed.setIfInBounds j true)) a w):wpAnyIn F n P md ops Q (fuel+1) listed a w:=by
 refine⟨fun h=>(by rw[hr] at h;cases h),fun k hk=>?_⟩
 rw[hr,List.mem_cons,List.mem_singleton] at hk
 rcases hk with rfl | rfl
 ·exact h1
 ·exact h2
theorem BL(i:Nat)(hr:Region.ready md ops listed=[i])(h1:wpOpIn F n P ops Q i (wpAnyIn F n P md ops Q fuel (listed.setIfInBounds i true)) a w):wpAnyIn F n P md ops Q (fuel+1) listed a w:=by
 refine⟨fun h=>(by rw[hr] at h;cases h),fun k hk=>?_⟩
 rw[hr,List.mem_singleton] at hk
 subst hk
 exact h1
theorem MC(hr:Region.ready md ops listed=[])(h:Q .normal a w):wpAnyIn F n P md ops Q 0 listed a w:=⟨hr,h⟩
theorem zT{i:Nat}{K:Act→World→Prop}{o:Oper}(hi:ops[i]?=some o)(hw:Region.wanted o (yielded ops a.tmps)=true)(h:o.wpIn F n P a w K Q):wpOpIn F n P ops Q i K a w:=by
 unfold wpOpIn
 simp only[hi,hw,if_true]
 exact h
end
def yt(acc:List (List UInt8×Tr))(x:Nat×List UInt8):Sum (Nat×Nat) (List (List UInt8×Tr)) :=
 if x.2.length=0∨x.2.getD 0 0=35 then .inr acc else match zF 4096 (acc.map (·.1)) x.2 with
  | none=>.inr acc
  | some (.inl q)=>.inl (q.1,q.2+x.1)
  | some (.inr y)=>.inr (acc++[y])
def uP(acc:List (List UInt8×Tr)):List (Nat×List UInt8)→Sum (Nat×Nat) (List (List UInt8×Tr))
 | []=>.inr acc
 | x::L=>match yt acc x with
  | .inl q=>.inl q
  | .inr acc'=>uP acc' L
def wE(l:List UInt8):Sum (Nat×Nat) (List (List UInt8×Tr)):=if 65536<l.length then .inl (4,65536) else uP [] (uK l)
theorem Gt(acc:List (List UInt8×Tr))(L M:List (Nat×List UInt8)):uP acc (L++M)=match uP acc L with
  | .inl q=>.inl q
  | .inr a=>uP a M:=by
 induction L generalizing acc with
 | nil=>rfl
 | cons x L ih =>
  rw[List.cons_append,uP,uP]
  cases yt acc x with
  | inl q=>rfl
  | inr a=>exact ih a
theorem aa8{N:Nat}{hv:List (List UInt8)}{s:List UInt8}{y:List UInt8×Tr}(h:zF N hv s=some (.inr y)):hv.length≠64:=by
 rw[xY] at h
 cases hh:tq hv s with
 | inl q=>rw[hh] at h;cases h
 | inr nm=>exact(FZ hh).2.2.1
def akZ(w:World)(ans:Sum (Nat×Nat) (List (List UInt8×Tr)))(e:Ending)(w':World):Prop:=Below w.heap.size w w'∧match ans with
 | .inl q=>e=.returned (.tuple #[.slice none 0 0,gQ q.1 q.2])
 | .inr L=>∃ (a:Option Addr) (cap:Nat) (Rs:List (List UInt8×Vt)),e=.returned (.tuple #[.slice a Rs.length cap,gQ 0 0])∧(Rs.map fun x=>(x.1,x.2.tr))=L∧Own w' w.heap.size 153 9 iW (.slice a Rs.length cap) Rs∧(∀ i (h:i<Rs.length),Lies w' Rs[i].2∧On (fun b=>w.heap.size≤b∧(Value.slice a Rs.length cap).ownBlock≠some b) Rs[i].2)
theorem Lies.WE{w:World}{V:Vt}(h:Lies w V):On (fun b=>∃ o:Obj,w.heap[b]?=some o∧o.isCells=true) V:=by
 induction h with
 | mk k s a cap kids lo hi _ _ _ hs _ ih =>
  refine .mk k s a cap kids lo hi (fun h0 ad ha=>?_) fun i hi=>ih i hi
  subst ha
  obtain⟨b,o,_,_,_,h4,h5⟩:=hs.open
  obtain rfl:=Option.some.inj (h4 0 h0)
  have hl:0<(kids[0].cells).length:=by rw[Vt.bK];decide
  exact cells_of_cell (h5 0 h0 0 _ (List.getElem?_eq_getElem hl))
theorem rG.YB{w w':World}{r base:Nat}{a:Option Addr}{cap:Nat}{Rs:List (List UInt8×Vt)}{m:Nat}(h:rG w r base a cap Rs m){row:Option Nat}(hg:w.grownBy w' row)(hr:∀ k,row=some k→base≤k∧∃ o:Obj,w.heap[k]?=some o∧o.isCells=false):rG w' r base a cap Rs m:=by
 have hlt:=h.lt
 have hc:∀ b,(∃ o:Obj,w.heap[b]?=some o∧o.isCells=true)→w'.heap[b]?=w.heap[b]?:=fun b ⟨o,ho,hc⟩=>hg.block b (Array.getElem?_eq_some_iff.1 ho).1 fun e=>by
  obtain⟨_,o',h1,h2⟩:=hr b e.symm
  rw[ho] at h1
  cases h1
  rw[hc] at h2;cases h2
 refine⟨(hc r ⟨_,h.box,rfl⟩).trans h.box,h.own.bW fun g hgg=>?_,h.map.same (hg.block m h.map.lt fun e=>by have:=(hr m e.symm).1;omega),fun i hi=>(h.lies i hi).fJ (h.lies i hi).WE hc,h.on,hlt⟩
 obtain⟨_,c,hb⟩:=h.own.block g hgg
 exact hc g ⟨_,hb,rfl⟩
theorem dO.YB{r m:Nat}{w0 w w':World}(h:dO r m (.slice none 0 0) w0 w){row:Option Nat}(hg:w.grownBy w' row)(hr:∀ k,row=some k→w0.heap.size≤k):dO r m (.slice none 0 0) w0 w' :=
 ⟨hg.os.trans h.os,hg.tape.trans h.tape,hg.output.trans h.output,Nat.le_trans h.size hg.size,fun b hb h1 h2 h3=>(hg.block b (Nat.lt_of_lt_of_le hb h.size) fun e=>by have:=hr b e.symm;omega).trans (h.block b hb h1 h2 h3)⟩
theorem dO.from{w w':World}{r base:Nat}{a:Option Addr}{cap:Nat}{Rs:List (List UInt8×Vt)}{m:Nat}(hR:rG w r base a cap Rs m)(hk:dO r m (.slice a Rs.length cap) w w'):KeepsFrom base w w':=⟨hk.size,fun k o hb h1 h2=>by
 have hlt:=hR.lt
 refine(hk.block k (Array.getElem?_eq_some_iff.1 h1).1 (by omega) (by omega) fun e=>?_).trans h1
 obtain⟨_,c,hb2⟩:=hR.own.block k e
 rw[show w.heap[k]?=_ from hb2] at h1
 cases h1;cases h2⟩
theorem dO.ak0{w w':World}{r base:Nat}{a:Option Addr}{cap:Nat}{Rs:List (List UInt8×Vt)}{m:Nat}{X:Nat→Prop}(hR:rG w r base a cap Rs m)(hk:dO r m (.slice a Rs.length cap) w w')(hX:∀ k,¬ X k→k<base∧k≠r∧k≠m):aS X w w':=⟨hk.size,fun b hb _ _ _ e=>by
 obtain⟨h1,h2,h3⟩:=hX b hb
 exact(hk.block b (Array.getElem?_eq_some_iff.1 e).1 h2 h3 fun e2=>by have:=(hR.lu b e2).1;omega).trans e⟩
theorem MF{w w':World}{D:Nat}(hg:w.grownBy w' (some D))(hD:∃ o:Obj,w.heap[D]?=some o∧o.isCells=false):∀ b:Nat,(∃ o:Obj,w.heap[b]?=some o∧o.isCells=true)→w'.heap[b]?=w.heap[b]?:=fun b ⟨o,ho,hc⟩=>hg.block b (Array.getElem?_eq_some_iff.1 ho).1 fun e=>by
 obtain⟨o',h1,h2⟩:=hD
 cases e
 rw[ho] at h1
 cases h1
 rw[hc] at h2;cases h2
theorem MG{W:World}{b0 b1 n c:Nat}{a:Option Addr}{c1:Array Value}{tmps:Array Value}(h0:Box W b0 #[.slice a n c] 86)(h1:Box W b1 c1 88)(e1:c1.size=2)(t2:tmps.getD 2 undef=.pointer (some ⟨b0,0,none⟩))(t3:tmps.getD 3 undef=.pointer (some ⟨b1,0,none⟩)) :
  (results Tryz.f56 tmps).run Tryz.prog W=.ok (.tuple #[.slice a n c,.agg c1]) W:=by
 have t2':tmps[2]?.getD undef=.pointer (some ⟨b0,0,none⟩):=by simpa using t2
 have t3':tmps[3]?.getD undef=.pointer (some ⟨b1,0,none⟩):=by simpa using t3
 have c0:=h0.cell 0
 have hl:(loadVar 86 ⟨b0,0,none⟩).run Tryz.prog W=.ok (.slice a n c) W:=by go_simp
 have h2:=run_loadVar_row (P:=Tryz.prog) W b1 88 88 c1 (0,0) _ h1 Tryz.underlying88 rfl (by rw[e1];kernel_rfl)
 simp[results,Tryz.f56,t2',t3',asAddr,hl,h2]
abbrev Qz(l:List UInt8):={ x:Nat×List UInt8 // Gs l x }
def RdI(l:List UInt8)(r m:Nat)(W0:World)(pre:List (Qz l))(W:World):Prop:=∃ a cap Rs,uP [] (pre.map (·.val))=.inr (Rs.map fun x=>(x.1,x.2.tr))∧Rs.length≤64∧rG W r W0.heap.size a cap Rs m∧dO r m (.slice none 0 0) W0 W
def RdX(l:List UInt8)(b0:Nat)(w:World)(c:Code)(pre:List (Qz l))(W:World):Prop:=c=.ret∧∃ q,uP [] (pre.map (·.val))=.inl q∧Box W b0 #[.slice none 0 0] 86∧Box W (b0+1) #[.int .i64 q.1,.int .i64 q.2] 88∧Below b0 w W
theorem RdI.own{l:List UInt8}{r m:Nat}{W0:World}:OwnFrom W0.heap.size (RdI l r m W0):=fun _ _ _ _ ⟨a,cap,Rs,h1,h2,h3,h4⟩ hg hr =>
 ⟨a,cap,Rs,h1,h2,h3.YB hg hr,h4.YB hg fun k e=>(hr k e).1⟩
theorem RdX.own{l:List UInt8}{b0 B:Nat}{w:World}{c:Code}(hb:b0+1<B):OwnFrom B (RdX l b0 w c):=fun _ _ _ _ ⟨h1,q,h2,h3,h4,h5⟩ hg hr =>
 ⟨h1,q,h2,(hg.block _ h3.lt fun e=>by have:=(hr _ e.symm).1;omega).trans h3,(hg.block _ h4.lt fun e=>by have:=(hr _ e.symm).1;omega).trans h4,h5.trans ⟨hg.os,hg.tape,hg.output,hg.size,fun k hk=>hg.block k (by have:=h3.lt;omega) fun e=>by have:=(hr _ e.symm).1;omega⟩⟩
set_option maxRecDepth 100000 in
theorem abb(g:Nat×Nat)(m c:Nat)(l:List UInt8)(w:World)(hS:ak w (.slice (some ⟨g.1,g.2,none⟩) m c) 1 bf l)(hg:g.1<w.heap.size)(hM:∃ k,w.cell? ⟨0,0,none⟩=some (.int .i64 k))(h0:0<w.heap.size)(hl:l.length≤65536)(Sr:II l) :
  Calls Tryz.prog 56 #[.slice (some ⟨g.1,g.2,none⟩) m c] w (akZ w (wE l)):=by
 have hml:=hS.cellsA.1
 have hmm:=@run_makeMap Tryz.prog
 have e1:decide (65536<(m:Int))=false:=by simp;omega
 have Gu:=ah hml
 have HS:=ah hS
 have zk:=ah Sr
 clear hml hS Sr
 refine(callsIn_wide (n:=6)).1 ?_
 refine callsIn_of_wp_marks Tryz.func56 rfl trivial ?_ rfl
 simp only[Tryz.ntmps56,List.size_toArray,List.length_cons,List.length_nil,Nat.reduceAdd,Nat.reduceSub,Array.replicate_succ,Array.replicate_zero,List.push_toArray,List.append_toArray,List.nil_append,List.cons_append]
 gi_wp2
 refine wpIn_wide.2 (wp_scope_straight ((wpIn_wide (n:=6)).1 ?_))
 gi_wp2
 refine wpIn_label ?_
 gi_wp2_with (refine⟨trivial,?_⟩;gi_at_call 97;refine(callsIn_wide.2 (YA _ _ ⟨_,_,_,rfl⟩)).mono ?_;rintro e w' ⟨rfl,rfl⟩)
 obtain⟨W0,hW0⟩:∃ W0,(((((w.alloc (.cells #[.slice none 0 0] 86)).alloc (.cells #[.int .i64 0,.int .i64 0] 88)).alloc (.map #[] 0)).alloc (.cells #[.slice none 0 0,.map (some (w.heap.size+1+1))] 139)).alloc (.cells #[.slice (some ⟨g.1,g.2,none⟩) m c] 35))=W0:=⟨_,rfl⟩
 have hsz0:W0.heap.size=w.heap.size+1+1+1+1+1:=by rw[←hW0];simp
 have hB0:Below w.heap.size w W0:=by rw[←hW0];exact(((((Below.refl _ w).alloc (Nat.le_refl _) _).alloc (by simp) _).alloc (by simp;omega) _).alloc (by simp;omega) _).alloc (by simp;omega) _
 have b0:Box W0 w.heap.size #[.slice none 0 0] 86:=by rw[←hW0];exact((((Box.new' rfl _ _).alloc _).alloc _).alloc _).alloc _
 have b1:Box W0 (w.heap.size+1) #[.int .i64 0,.int .i64 0] 88:=by rw[←hW0];exact(((Box.new' (by simp) _ _).alloc _).alloc _).alloc _
 have b2:aK W0 (w.heap.size+1+1) (fun s:List UInt8=>sv s) []:=by rw[←hW0];exact((aK.new' (by simp) _).alloc _).alloc _
 have b3:Box W0 (w.heap.size+1+1+1) #[.slice none 0 0,.map (some (w.heap.size+1+1))] 139:=by rw[←hW0];exact(Box.new' (by simp) _ _).alloc _
 have b4:Box W0 (w.heap.size+1+1+1+1) #[.slice (some ⟨g.1,g.2,none⟩) m c] 35:=by rw[←hW0];exact Box.new' (by simp) _ _
 rw[hW0]
 clear hW0
 have hS0:=HS.out.kept hB0
 have hM0:∃ k,W0.cell? ⟨0,0,none⟩=some (.int .i64 k):=by
  obtain⟨k,hk⟩:=hM
  exact⟨k,(World.cell?_of_block (a:=⟨0,0,none⟩) (hB0.block 0 h0)).trans hk⟩
 obtain⟨k0,hk0⟩:=hM0
 have hst:=Vw 5 (w.heap.size+1+1+1+1) g m c l (by rw[Gu.out];exact hl) (fun k=>¬ (k=w.heap.size+1+1+1+1∨k=g.1∨k=0)) ⟨fun h=>h (.inl rfl),fun h=>h (.inr (.inl rfl)),fun h=>h (.inr (.inr rfl))⟩ W0 ⟨k0,hk0⟩ b4 hS0
 have hR0:rG W0 (w.heap.size+1+1+1) W0.heap.size none 0 [] (w.heap.size+1+1):=⟨b3,Own.nil _ _ _ _ _,b2,fun i hi=>by simp at hi,fun i hi=>by simp at hi,by omega,by omega,by omega⟩
 refine wpIn_rangeFunc_ownG rfl (by decide) (gf:=136) (lb:=#[.pointer (some ⟨w.heap.size+1+1+1+1,0,none⟩)]) rfl trivial (enters_of Tryz.func136 (by kernel_rfl) rfl)
  hst (fun h k=>h.trans k) Hr (Below.refl _ _) (fun _=>rfl)
  (RdI l (w.heap.size+1+1+1) (w.heap.size+1+1) W0) (RdX l w.heap.size w) RdI.own (fun _=>RdX.own (by omega))
  ⟨none,0,[],rfl,by simp,hR0,dO.below (Below.refl _ _)⟩
  (fun x=>{ tmps:=#[.slice (some ⟨g.1,g.2,none⟩) m c,undef,.pointer (some ⟨w.heap.size,0,none⟩),.pointer (some ⟨w.heap.size+1,0,none⟩),.pointer (some ⟨w.heap.size+1+1+1,0,none⟩),.int .i64 x.1.1,.slice (some ⟨g.1,g.2+x.1.1,none⟩) x.1.2.length (c - x.1.1),undef,.slice (some ⟨g.1,g.2,none⟩) m c,.int .i64 m,.bool false,undef,.map (some (w.heap.size+1+1)),.agg #[.slice none 0 0,.map (some (w.heap.size+1+1))],.slice (some ⟨g.1,g.2,none⟩) m c,.func (.func 136) #[] #[.pointer (some ⟨w.heap.size+1+1+1+1,0,none⟩)],.int .i64 x.1.1,.slice (some ⟨g.1,g.2+x.1.1,none⟩) x.1.2.length (c - x.1.1)]++Array.replicate 23 undef,defers:=[] }) ?assign ?body ?done ?stop
 case assign =>
  intro lp x W K hK
  simp only[Array.replicate_succ,Array.replicate_zero,List.push_toArray,List.append_toArray,List.nil_append,List.cons_append] at hK
  unfold afD
  go_simp
  gi_wp2
  exact hK
 case body =>
  rintro lp pre ⟨⟨at',s⟩,hx⟩ W ⟨a,cap,Rs,hf,h64,hR,hK⟩ hlt
  have hx1:at'+s.length≤l.length:=hx.1
  have hx2:s=(l.drop at').take s.length:=hx.2
  have hstep:uP [] ((pre++[(⟨(at',s),hx⟩:Qz l)]).map (·.val))=yt (Rs.map fun x=>(x.1,x.2.tr)) (at',s):=by
   rw[List.map_append,Gt,hf]
   show uP _ [(at',s)]=_
   rw[uP]
   cases yt (Rs.map fun x=>(x.1,x.2.tr)) (at',s) <;> rfl
  simp only[Array.replicate_succ,Array.replicate_zero,List.push_toArray,List.append_toArray,List.nil_append,List.cons_append]
  have hm:=Gu.out
  have hlt0:=hR.lt
  have hWs:=hK.size
  have hSW:ak W (.slice (some ⟨g.1,g.2,none⟩) m c) 1 bf l:=hS0.fJ fun _ ad e=>by
   cases e
   exact hK.block g.1 (by omega) (by omega) (by omega) (fun e=>by cases e)
  obtain⟨_,hmc,hc63,hcell⟩:=hSW.cellsA
  have HST:=ah hstep
  by_cases hs0:s.length=0
  ·have e0:((s.length:Int)==0)=true:=by rw[hs0];rfl
   have hst2:yt (Rs.map fun x=>(x.1,x.2.tr)) (at',s)=.inr (Rs.map fun x=>(x.1,x.2.tr)):=by unfold yt;rw[if_pos (.inl hs0)]
   rw[hst2] at HST
   have HRR:=ah (show rG _ _ _ _ _ _ _∧dO _ _ _ _ _ from⟨hR,hK⟩)
   clear hst2 hs0 hcell hSW hx2 hR hK hm hmc hstep
   gi_wp2
   exact⟨KeepsFrom.refl _ _,aS.refl _ _,a,cap,Rs,HST.out,h64,HRR.out.1,HRR.out.2⟩
  ·have e0:((s.length:Int)==0)=false:=by rw[beq_eq_false_iff_ne];omega
   have arz:0<s.length:=by omega
   have hy:=hcell at' (by omega) W (Below.refl _ _)
   have hsg:l[at']'(by omega)=s.getD 0 0:=by
    refine Eq.symm ((congrArg (fun z:List UInt8=>z.getD 0 0) hx2).trans ?_)
    show((l.drop at').take s.length).getD 0 0=_
    rw[List.getD_eq_getElem?_getD,List.getElem?_take,if_pos (by omega),List.getElem?_drop,Nat.add_zero,List.getElem?_eq_getElem (by omega:at'<l.length),Option.getD_some]
   rw[hsg] at hy
   by_cases h35:s.getD 0 0=35
   ·have hst2:yt (Rs.map fun x=>(x.1,x.2.tr)) (at',s)=.inr (Rs.map fun x=>(x.1,x.2.tr)):=by unfold yt;rw[if_pos (.inr h35)]
    rw[hst2] at HST
    rw[h35] at hy
    have y0:W.cell? ⟨g.1,g.2+at',none⟩=some (.int .u8 35):=hy
    have HRR:=ah (show rG _ _ _ _ _ _ _∧dO _ _ _ _ _ from⟨hR,hK⟩)
    clear hst2 hs0 hcell hSW hx2 hR hK hm hmc hy hsg h35 hstep
    gi_wp2
    exact⟨KeepsFrom.refl _ _,aS.refl _ _,a,cap,Rs,HST.out,h64,HRR.out.1,HRR.out.2⟩
   ·have hne:(((s.getD 0 0).toNat:Int)==35)=false:=by
     rw[beq_eq_false_iff_ne]
     intro e
     refine h35 (UInt8.toNat_inj.1 ?_)
     have:(s.getD 0 0).toNat=35:=by omega
     rw[this];rfl
    have hst2:yt (Rs.map fun x=>(x.1,x.2.tr)) (at',s)=match zF 4096 (Rs.map (·.1)) s with
      | none=>.inr (Rs.map fun x=>(x.1,x.2.tr))
      | some (.inl q)=>.inl (q.1,q.2+at')
      | some (.inr y)=>.inr ((Rs.map fun x=>(x.1,x.2.tr))++[y]):=by
     unfold yt
     rw[if_neg (by rintro(h | h);exact hs0 h;exact h35 h),List.map_map]
     rfl
    rw[hst2] at HST
    have hsub:=ak.sub (f:=fun x:UInt8=>Value.int .u8 x.toNat) hSW at' s.length (by omega)
    rw[←hx2] at hsub
    unfold Ci at hsub
    rw[if_neg (by omega)] at hsub
    generalize s.getD 0 0=ch at *
    cases hP:zF 4096 (Rs.map (·.1)) s with
    | none=>exact absurd hP (Yt _ _)
    | some P =>
     rw[hP] at HST
     have hqa:=fun q (e:P=.inl q)=>adI (q:=q) (by omega:s.length≤65536) (by rw[←e];exact hP)
     have hln:=agM 4096 (by decide) (w.heap.size+1+1+1) W0.heap.size a cap Rs (w.heap.size+1+1) (g.1,g.2+at') s.length (c - at') s W hR hsub (by omega) h64 (by show g.1<_;omega) hWs (zk.out.of fun b hb=>by rw[hx2] at hb;exact List.mem_of_mem_drop (List.mem_of_mem_take hb)) P hP (fun q e=>by have:=(hqa q e).1;omega)
     have rH:=fun y (e:P=.inr y)=>aa8 (y:=y) (by rw[←e];exact hP)
     have anB:=ah rH
     have uY:=ah hln
     have HRR:=ah (show rG _ _ _ _ _ _ _∧dO _ _ _ _ _ from⟨hR,hK⟩)
     have HQA:=ah hqa
     have y0:=hy
     have arA:at'≤65536:=by omega
     have aix:∀ k,¬ ¬ (k=w.heap.size+1+1+1+1∨k=g.1∨k=0)→k<W0.heap.size∧k≠w.heap.size+1+1+1∧k≠w.heap.size+1+1:=fun k h=>by
      rcases Classical.not_not.1 h with h | h | h <;> omega
     have HBC:=ah aix
     clear hst2 hs0 hcell hSW hx2 hR hK hm hmc hy hsg h35 hstep hP hln hqa hsub aix rH
     cases P with
     | inl q =>
      obtain⟨qk,qp⟩:=q
      have hqb:=HQA.out _ rfl
      have hqp:qp≤200000:=hqb.1
      have hqk:qk≠0:=hqb.2
      have ek:((qk:Int) != 0)=true:=by rw[bne_iff_ne];omega
      clear hqb hqk
      gi_wp2_with (refine⟨trivial,?_⟩;gi_at_call 98;refine(CallsIn.inRound lp (callsIn_wide.2 uY.out)).mono ?_;rintro e w1 ⟨rfl,hR1,hk1⟩;unfold gQ)
      have hz:=hR1.box.lt
      have hB1:=aj w1 (.cells #[.int .i64 qk,.int .i64 ((qp:Int)+(at':Int))] 88)
      have hW1:(w1.alloc (.cells #[.int .i64 qk,.int .i64 ((qp:Int)+(at':Int))] 88)).heap.size=w1.heap.size+1:=by simp
      have t7:Box (w1.alloc (.cells #[.int .i64 qk,.int .i64 ((qp:Int)+(at':Int))] 88)).drew w1.heap.size #[.int .i64 qk,.int .i64 ((qp:Int)+(at':Int))] 88:=(Box.new w1 _ _).drew
      obtain⟨hR,hK⟩:=HRR.out
      have zi:=((hK.trans (fun gg hg=>.inr (hR.lu gg hg).1) hk1).trans (yI:=.slice a Rs.length cap) (fun gg hg=>.inr (hR1.lu gg hg).1) (dO.below hB1))
      have hw1:=zi.size
      rw[hW1] at hw1
      have t2:Box (w1.alloc (.cells #[.int .i64 qk,.int .i64 ((qp:Int)+(at':Int))] 88)).drew w.heap.size #[.slice none 0 0] 86:=Box.drew ((zi.block _ (by omega) (by omega) (by omega) (fun e=>by cases e)).trans b0)
      have t3:Box (w1.alloc (.cells #[.int .i64 qk,.int .i64 ((qp:Int)+(at':Int))] 88)).drew (w.heap.size+1) #[.int .i64 0,.int .i64 0] 88:=Box.drew ((zi.block _ (by omega) (by omega) (by omega) (fun e=>by cases e)).trans b1)
      have hKF:KeepsFrom W0.heap.size W (w1.alloc (.cells #[.int .i64 qk,.int .i64 ((qp:Int)+(at':Int))] 88)).drew:=((hk1.from hR).trans ((KeepsOthers.alloc w1 _).from _)).trans (⟨Nat.le_refl _,fun _ _ _ h _=>h⟩:KeepsFrom W0.heap.size (w1.alloc (.cells #[.int .i64 qk,.int .i64 ((qp:Int)+(at':Int))] 88)) (w1.alloc (.cells #[.int .i64 qk,.int .i64 ((qp:Int)+(at':Int))] 88)).drew)
      have hBb:Below w.heap.size w (w1.alloc (.cells #[.int .i64 qk,.int .i64 ((qp:Int)+(at':Int))] 88)).drew:=(hB0.trans ⟨zi.os,zi.tape,zi.output,zi.size,fun k hk=>zi.block k (by omega) (by omega) (by omega) (fun e=>by cases e)⟩).trans (Below.refl _ _).drew
      refine wpIn_region_any (by kernel_rfl) ?_
      change wpAnyIn _ _ _ _ _ _ _ _ _ (w1.alloc (.cells #[.int .i64 qk,.int .i64 ((qp:Int)+(at':Int))] 88)).drew
      generalize (w1.alloc (.cells #[.int .i64 qk,.int .i64 ((qp:Int)+(at':Int))] 88)).drew=W2 at *
      have c70:=t7.cell 0;have c71:=t7.cell 1;have c20:=t2.cell 0;have f20:=t2.free 0;have c30:=t3.cell 0;have c31:=t3.cell 1;have f30:=t3.free 0;have f31:=t3.free 1
      have hfin:KeepsFrom W0.heap.size W (((W2.setCell ⟨w.heap.size,0,none⟩ (.slice none 0 0)).setCell ⟨w.heap.size+1,0,none⟩ (.int .i64 qk)).setCell ⟨w.heap.size+1,1,none⟩ (.int .i64 ((qp:Int)+(at':Int))))∧RdX l w.heap.size w .ret (pre++[(⟨(at',s),hx⟩:Qz l)]) (((W2.setCell ⟨w.heap.size,0,none⟩ (.slice none 0 0)).setCell ⟨w.heap.size+1,0,none⟩ (.int .i64 qk)).setCell ⟨w.heap.size+1,1,none⟩ (.int .i64 ((qp:Int)+(at':Int)))):=by
       refine⟨((hKF.trans ((KeepsOthers.setCell _ _ _).from _)).trans ((KeepsOthers.setCell _ _ _).from _)).trans ((KeepsOthers.setCell _ _ _).from _),rfl,(qk,qp+at'),HST.out,((t2.set 0 (.slice none 0 0)).other _ _ (by simp)).other _ _ (by simp),?_,((hBb.setCell (p:=⟨w.heap.size,0,none⟩) (by simp) _).setCell (p:=⟨w.heap.size+1,0,none⟩) (by simp) _).setCell (p:=⟨w.heap.size+1,1,none⟩) (by simp) _⟩
       rw[show((qk,qp+at').2:Nat)=qp+at' from rfl,show(((qp+at':Nat)):Int)=(qp:Int)+(at':Int) by omega]
       exact((t3.other ⟨w.heap.size,0,none⟩ (.slice none 0 0) (by simp)).set 0 (.int .i64 qk)).set 1 (.int .i64 ((qp:Int)+(at':Int)))
      have oO:=ah hfin
      clear hfin hKF hBb zi hR hK
      refine aa7 0 1 (by kernel_rfl) ?_ ?_
      ·refine zT rfl (by rfl) ?_
       gi_step
       refine BL 1 (by kernel_rfl) ?_
       refine zT rfl (by rfl) ?_
       gi_step
       refine BL 2 (by kernel_rfl) ?_
       refine zT rfl (by rfl) ?_
       gi_step
       refine MC (by kernel_rfl) ?_
       gi_wp2
       exact oO.out
      ·refine zT rfl (by rfl) ?_
       gi_step
       refine BL 0 (by kernel_rfl) ?_
       refine zT rfl (by rfl) ?_
       gi_step
       refine BL 2 (by kernel_rfl) ?_
       refine zT rfl (by rfl) ?_
       gi_step
       refine MC (by kernel_rfl) ?_
       gi_wp2
       exact oO.out
     | inr y =>
      gi_wp2_with (refine⟨trivial,?_⟩;gi_at_call 98;refine(CallsIn.inRound lp (callsIn_wide.2 uY.out)).mono ?_;rintro e w1 ⟨a',cap',V,rfl,hV,hR1,hk1,hf1⟩;unfold gQ)
      have hB1:=aj w1 (.cells #[.int .i64 0,.int .i64 0] 88)
      have hl1:(Rs++[(y.1,V)]).length=Rs.length+1:=by simp
      obtain⟨hR,hK⟩:=HRR.out
      have rH:Rs.length≠64:=by have:=anB.out y rfl;simpa using this
      refine⟨(hk1.from hR).trans ((KeepsOthers.alloc w1 _).from _),(hk1.ak0 hR HBC.out).trans (aS.below hB1),a',cap',Rs++[(y.1,V)],HST.out.trans ?_,by omega,hR1.kept hB1,(hK.trans (fun gg hg=>.inr (hR.lu gg hg).1) hk1).trans (fun gg hg=>.inr ?_) (dO.below (ov:=.slice a' (Rs.length+1) cap') hB1)⟩
      ·rw[List.map_append]
       show Sum.inr (_++[y])=Sum.inr (_++[(y.1,V.tr)])
       rw[hV]
      ·exact(hR1.lu gg (by rw[hl1];exact hg)).1
 case done =>
  intro Dd xs W hD hS1 ⟨a,cap,Rs,hf,h64,hR,hK⟩ YC
  have hS1:xs.map (·.val)=uK l:=hS1
  rw[hS1] at hf
  have hans:wE l=.inr (Rs.map fun x=>(x.1,x.2.tr)):=by unfold wE;rw[if_neg (by omega)];exact hf
  have hWs:=hK.size
  have t2:Box W w.heap.size #[.slice none 0 0] 86:=(hK.block _ (by omega) (by omega) (by omega) (fun e=>by cases e)).trans b0
  have t3:Box W (w.heap.size+1) #[.int .i64 0,.int .i64 0] 88:=(hK.block _ (by omega) (by omega) (by omega) (fun e=>by cases e)).trans b1
  have hBW:Below w.heap.size w W:=hB0.trans ⟨hK.os,hK.tape,hK.output,hK.size,fun k hk=>hK.block k (by omega) (by omega) (by omega) (fun e=>by cases e)⟩
  have c0:=hR.box.cell 0
  have c20:=t2.cell 0;have f20:=t2.free 0;have c30:=t3.cell 0;have c31:=t3.cell 1;have f30:=t3.free 0;have f31:=t3.free 1
  have lC:=ah hans
  have HR:=ah hR
  clear hS1 hf hans hR
  gi_wp2
  have hbb:∀ x,W0.heap.size≤x→(((W.setCell ⟨w.heap.size,0,none⟩ (.slice a Rs.length cap)).setCell ⟨w.heap.size+1,0,none⟩ (.int .i64 0)).setCell ⟨w.heap.size+1,1,none⟩ (.int .i64 0)).heap[x]?=W.heap[x]?:=fun x hx =>
   (heap_setCell_other _ ⟨w.heap.size+1,1,none⟩ x _ (by show x≠w.heap.size+1;omega)).trans ((heap_setCell_other _ ⟨w.heap.size+1,0,none⟩ x _ (by show x≠w.heap.size+1;omega)).trans (heap_setCell_other _ ⟨w.heap.size,0,none⟩ x _ (by show x≠w.heap.size;omega)))
  have u2:=((t2.set 0 (.slice a Rs.length cap)).other ⟨w.heap.size+1,0,none⟩ (.int .i64 0) (by simp)).other ⟨w.heap.size+1,1,none⟩ (.int .i64 0) (by simp)
  have u3:=((t3.other ⟨w.heap.size,0,none⟩ (.slice a Rs.length cap) (by simp)).set 0 (.int .i64 0)).set 1 (.int .i64 0)
  have zu:=((hBW.setCell (p:=⟨w.heap.size,0,none⟩) (by simp) (.slice a Rs.length cap)).setCell (p:=⟨w.heap.size+1,0,none⟩) (by simp) (.int .i64 0)).setCell (p:=⟨w.heap.size+1,1,none⟩) (by simp) (.int .i64 0)
  have hR:=HR.out
  have aiy:=hR.own.bW fun gg hgg=>hbb gg (hR.lu gg hgg).1
  have lf:=fun i hi=>(hR.lies i hi).fJ (hR.on i hi) fun x hx=>hbb x hx.1
  have hDf:=(hbb Dd hD).trans YC
  generalize (((W.setCell ⟨w.heap.size,0,none⟩ (.slice a Rs.length cap)).setCell ⟨w.heap.size+1,0,none⟩ (.int .i64 0)).setCell ⟨w.heap.size+1,1,none⟩ (.int .i64 0))=Wf at *
  have Dx:=grownBy_putObj' Wf Dd (.deferred none)
  have hct:=MF Dx ⟨_,hDf,rfl⟩
  refine⟨by simp,.inl ⟨_,_,rfl,run_takeDeferred hDf,?_⟩⟩
  have v2:Box (Wf.putObj Dd (.deferred none)) w.heap.size #[.slice a Rs.length cap] 86:=(hct _ ⟨_,u2,rfl⟩).trans u2
  have v3:Box (Wf.putObj Dd (.deferred none)) (w.heap.size+1) #[.int .i64 0,.int .i64 0] 88:=(hct _ ⟨_,u3,rfl⟩).trans u3
  refine⟨_,MG v2 v3 rfl rfl rfl,zu.trans ⟨Dx.os,Dx.tape,Dx.output,Dx.size,fun k hk=>Dx.block k (by have:=zu.size;omega) (fun e=>by cases e;omega)⟩,?_⟩
  rw[lC.out]
  refine⟨a,cap,Rs,rfl,rfl,(aiy.bW fun gg hgg=>?_).mono (by omega),fun i hi=>⟨(lf i hi).fJ (lf i hi).WE hct,(hR.on i hi).mono fun x hx=>⟨by omega,hx.2⟩⟩⟩
  obtain⟨_,cc,hbx⟩:=aiy.block gg hgg
  exact hct gg ⟨_,hbx,rfl⟩
 case stop =>
  rintro Dd c1 pre W hD hpre ⟨rfl,q,hf,t2,t3,hBW⟩ YC
  have hans:wE l=.inl q:=by
   unfold wE
   rw[if_neg (by omega)]
   obtain⟨post,hp⟩:=(hpre:pre.map (·.val) <+: uK l)
   rw[←hp,Gt,hf]
  have lC:=ah hans
  clear hans hf hpre
  gi_wp2
  have Dx:=grownBy_putObj' W Dd (.deferred none)
  have hct:=MF Dx ⟨_,YC,rfl⟩
  refine⟨by simp,.inl ⟨_,_,rfl,run_takeDeferred YC,?_⟩⟩
  have v2:Box (W.putObj Dd (.deferred none)) w.heap.size #[.slice none 0 0] 86:=(hct _ ⟨_,t2,rfl⟩).trans t2
  have v3:Box (W.putObj Dd (.deferred none)) (w.heap.size+1) #[.int .i64 q.1,.int .i64 q.2] 88:=(hct _ ⟨_,t3,rfl⟩).trans t3
  refine⟨_,MG v2 v3 rfl rfl rfl,hBW.trans ⟨Dx.os,Dx.tape,Dx.output,Dx.size,fun k hk=>Dx.block k (by have:=hBW.size;omega) (fun e=>by cases e;omega)⟩,?_⟩
  rw[lC.out]
  rfl
end
section
open Go.RowKit
abbrev zx(x:List UInt8×Vt):List UInt8×Tr:=(x.1,x.2.tr)
def Aw(L:List (List UInt8×Tr))(i:Nat):Bool:=match L[i]? with
 | none=>true
 | some x=>qK x.1&&!((L.take i).map (·.1)).contains x.1&&iU x.2
def qF(L:List (List UInt8×Tr))(k:Nat):Bool:=(List.range k).all (Aw L)
def tH(L:List (List UInt8×Tr)):Bool:=decide (L.length≤64)&&qF L L.length
theorem Tj(L:List (List UInt8×Tr))(k:Nat):qF L (k+1)=(qF L k&&Aw L k):=by
 unfold qF;rw[List.range_succ,List.all_append];simp
theorem Qm(L:List (List UInt8×Tr))(k n:Nat)(hk:k<n)(h:Aw L k=false):qF L n=false:=by
 unfold qF
 rw[List.all_eq_false]
 exact⟨k,by simpa using hk,by simp[h]⟩
theorem Pz(Rs:List (List UInt8×Vt))(k:Nat)(h:k<Rs.length):Aw (Rs.map zx) k=(qK Rs[k].1&&!((Rs.take k).map (·.1)).contains Rs[k].1&&iU Rs[k].2.tr):=by
 unfold Aw
 rw[List.getElem?_map,List.getElem?_eq_getElem h]
 show(qK Rs[k].1&&!(((Rs.map zx).take k).map (·.1)).contains Rs[k].1&&iU Rs[k].2.tr)=_
 rw[←List.map_take,List.map_map]
 rfl
theorem MH(a:Option Addr)(cap n:Nat)(Rs:List (List UInt8×Vt))(w:World)(h:ak w (.slice a n cap) 9 iW Rs)(hL:∀ i (h:i<Rs.length),Lies w Rs[i].2)(hnm:∀ x∈Rs,x.1.length≤9223372036854775807) :
  Calls Tryz.prog 99 #[.slice a n cap] w (bM w (.bool (tH (Rs.map zx)))):=by
 obtain⟨b,o,hn,hcap,hcap2,ha,hx⟩:=h.open
 have hmm:=@run_makeMap Tryz.prog
 have hz:=O8
 have hans:tH (Rs.map zx)=(decide (n≤64)&&qF (Rs.map zx) n):=by unfold tH;rw[List.length_map,hn]
 rw[hans]
 by_cases h64:64<n
 ·have e1:decide (n≤64)=false:=by simp;omega
  rw[e1]
  have anl:(64:Int)<(n:Int):=by omega
  clear hn hcap hx ha h hL hnm hans e1 h64
  go_enter Tryz.func99,Tryz.ntmps99
  go_wp2
  go_ret
  exact⟨rfl,Below.refl _ _⟩
 ·have e1:decide (n≤64)=true:=by simp;omega
  rw[e1,Bool.true_and]
  have anm:decide ((64:Int)<(n:Int))=false:=by simp;omega
  have HX:=ah hx
  have HA:=ah ha
  have HN:=ah hn
  have HL:=ah hL
  have ug:=ah hnm
  have rH:n≤64:=by omega
  have hm0:=aK.new w (fun s:List UInt8=>sv s)
  have hb0:=aj w (.map #[] 0)
  obtain⟨ANS,hA⟩:∃ ANS,qF (Rs.map zx) n=ANS:=⟨_,rfl⟩
  rw[hA]
  have lC:=ah hA
  clear hx ha hn hL hnm h hans hA e1 h64
  go_enter Tryz.func99,Tryz.ntmps99
  go_wp2
  go_loopw [12] (fun i wr=>∃ k:Nat,k≤n∧i=.int .i64 k∧qF (Rs.map zx) k=true∧aK wr w.heap.size (fun s:List UInt8=>sv s) (wu (Rs.take k))∧Below w.heap.size w wr) (fun i _=>n - (intOf i).toNat)
  case atStart=>exact⟨0,Nat.zero_le _,rfl,rfl,hm0,hb0⟩
  case round =>
   clear hm0 hb0
   obtain⟨k,hk,rfl,hok,hM,hB⟩:=hrel
   by_cases hlt:k<n
   ·have hk2:k<Rs.length:=by rw[←HN.out];exact hlt
    obtain rfl:=HA.out k hk2
    have hy:∀ j u,(iW Rs[k])[j]?=some u→wr.cell? ⟨b,o+k*9+j,none⟩=some u:=fun j u hu=>by
     have:=HX.out k hk2 j u hu
     rw[hB.cell (World.block_lt_of_cell? w _ this)];exact this
    have hsucc:=Tj (Rs.map zx) k
    rw[hok,Bool.true_and,Pz Rs k hk2] at hsucc
    have hfalse:=fun(hf:Aw (Rs.map zx) k=false)=>Qm (Rs.map zx) k n hlt hf
    rw[Pz Rs k hk2] at hfalse
    have htk:Rs.take (k+1)=Rs.take k++[Rs[k]]:=List.take_succ_eq_append_getElem hk2
    have Aa:=HL.out k hk2
    have hnn:=ug.out _ (List.getElem_mem hk2)
    have uz:=ah htk
    clear htk
    generalize Rs[k]=x at *
    obtain⟨nm,⟨k5,s5,a5,cp5,cZ,dh,hi5⟩⟩:=x
    have y0:=hy 0 _ rfl
    have y1:=hy 1 _ rfl
    have y2:=hy 2 _ rfl
    have y3:=hy 3 _ rfl
    have y4:=hy 4 _ rfl
    have y5:=hy 5 _ rfl
    have y6:=hy 6 _ rfl
    have y7:=hy 7 _ rfl
    have y8:=hy 8 _ rfl
    have hbl:=World.block_lt_of_cell? wr _ y0
    simp only[Nat.add_zero] at y0
    have hki:(k:Int)<(n:Int):=by omega
    have hk0:(0:Int)≤(k:Int):=by omega
    have PD:=ah Aa
    have hname:=fun u=>O1 nm u hnn
    have hlook:=Am nm (Rs.take k)
    have hbx:Box (wr.alloc (.cells (iW (nm,.mk k5 s5 a5 cp5 cZ dh hi5)).toArray 153)) wr.heap.size #[sv nm,.int .i64 k5,.int .u64 (word s5 0:Nat),.int .u64 (word s5 1:Nat),.int .u64 (word s5 2:Nat),.int .u64 (word s5 3:Nat),.slice a5 cZ.length cp5,.int .i64 dh,.int .i64 hi5] 153:=Box.new wr _ _
    clear hy hnn Aa
    generalize hcc:((Rs.take k).map (·.1)).contains nm=q at *
    dsimp only at hsucc hfalse
    have o9:=ah hsucc
    have Aq:=ah hfalse
    have wX:=ah hname
    have ET:=ah hlook
    clear hsucc hfalse hname hlook
    have hB1:=hB.trans ((aj wr (.cells (iW (nm,.mk k5 s5 a5 cp5 cZ dh hi5)).toArray 153)).mono hB.size)
    have hM:=hM
    cases hn:qK nm with
    | false =>
     rw[hn] at wX Aq
     have hans:ANS=false:=by rw[←lC.out];exact Aq.out rfl
     subst hans
     clear hn
     go_wp2_with (go_at_call 62;go_must (refine(wX.out _).mono ?_;rintro e w2 ⟨rfl,hb2⟩;have hx2:=hbx.kept hb2;have hM2:=(hM.alloc (.cells (iW (nm,.mk k5 s5 a5 cp5 cZ dh hi5)).toArray 153)).kept hb2;have hlk:=lJ hM2 mX Tryz.underlying137 (hz w2) nm;rw[ET.out] at hlk;have hB2:=hB1.trans (hb2.mono hB1.size);have z0:w2.cell? ⟨wr.heap.size,0,none⟩=some (sv nm):=hx2.cell 0;have z1:w2.cell? ⟨wr.heap.size,1,none⟩=some (.int .i64 k5):=hx2.cell 1;have z2:w2.cell? ⟨wr.heap.size,2,none⟩=some (.int .u64 (word s5 0:Nat)):=hx2.cell 2;have z3:w2.cell? ⟨wr.heap.size,3,none⟩=some (.int .u64 (word s5 1:Nat)):=hx2.cell 3;have z4:w2.cell? ⟨wr.heap.size,4,none⟩=some (.int .u64 (word s5 2:Nat)):=hx2.cell 4;have z5:w2.cell? ⟨wr.heap.size,5,none⟩=some (.int .u64 (word s5 3:Nat)):=hx2.cell 5;have z6:w2.cell? ⟨wr.heap.size,6,none⟩=some (.slice a5 cZ.length cp5):=hx2.cell 6;have z7:w2.cell? ⟨wr.heap.size,7,none⟩=some (.int .i64 dh):=hx2.cell 7;have z8:w2.cell? ⟨wr.heap.size,8,none⟩=some (.int .i64 hi5):=hx2.cell 8))
     go_ret
     exact⟨rfl,hB2⟩
    | true =>
     rw[hn] at wX Aq o9
     cases q with
     | true =>
      have hans:ANS=false:=by rw[←lC.out];exact Aq.out rfl
      subst hans
      clear hn
      go_wp2_with (go_at_call 62;go_must (refine(wX.out _).mono ?_;rintro e w2 ⟨rfl,hb2⟩;have hx2:=hbx.kept hb2;have hM2:=(hM.alloc (.cells (iW (nm,.mk k5 s5 a5 cp5 cZ dh hi5)).toArray 153)).kept hb2;have hlk:=lJ hM2 mX Tryz.underlying137 (hz w2) nm;rw[ET.out] at hlk;have hB2:=hB1.trans (hb2.mono hB1.size);have z0:w2.cell? ⟨wr.heap.size,0,none⟩=some (sv nm):=hx2.cell 0;have z1:w2.cell? ⟨wr.heap.size,1,none⟩=some (.int .i64 k5):=hx2.cell 1;have z2:w2.cell? ⟨wr.heap.size,2,none⟩=some (.int .u64 (word s5 0:Nat)):=hx2.cell 2;have z3:w2.cell? ⟨wr.heap.size,3,none⟩=some (.int .u64 (word s5 1:Nat)):=hx2.cell 3;have z4:w2.cell? ⟨wr.heap.size,4,none⟩=some (.int .u64 (word s5 2:Nat)):=hx2.cell 4;have z5:w2.cell? ⟨wr.heap.size,5,none⟩=some (.int .u64 (word s5 3:Nat)):=hx2.cell 5;have z6:w2.cell? ⟨wr.heap.size,6,none⟩=some (.slice a5 cZ.length cp5):=hx2.cell 6;have z7:w2.cell? ⟨wr.heap.size,7,none⟩=some (.int .i64 dh):=hx2.cell 7;have z8:w2.cell? ⟨wr.heap.size,8,none⟩=some (.int .i64 hi5):=hx2.cell 8))
      go_ret
      exact⟨rfl,hB2⟩
     | false =>
      cases hr:iU (Vt.mk k5 s5 a5 cp5 cZ dh hi5).tr with
      | false =>
       have hans:ANS=false:=by rw[←lC.out];exact Aq.out (by rw[hr];rfl)
       subst hans
       have HRR:=ah hr
       clear hn hr
       go_wp2_with (first | (go_at_call 62;go_must (refine(wX.out _).mono ?_;rintro e w2 ⟨rfl,hb2⟩;have hx2:=hbx.kept hb2;have hM2:=(hM.alloc (.cells (iW (nm,.mk k5 s5 a5 cp5 cZ dh hi5)).toArray 153)).kept hb2;have hlk:=lJ hM2 mX Tryz.underlying137 (hz w2) nm;rw[ET.out] at hlk;have hB2:=hB1.trans (hb2.mono hB1.size);have z0:w2.cell? ⟨wr.heap.size,0,none⟩=some (sv nm):=hx2.cell 0;have z1:w2.cell? ⟨wr.heap.size,1,none⟩=some (.int .i64 k5):=hx2.cell 1;have z2:w2.cell? ⟨wr.heap.size,2,none⟩=some (.int .u64 (word s5 0:Nat)):=hx2.cell 2;have z3:w2.cell? ⟨wr.heap.size,3,none⟩=some (.int .u64 (word s5 1:Nat)):=hx2.cell 3;have z4:w2.cell? ⟨wr.heap.size,4,none⟩=some (.int .u64 (word s5 2:Nat)):=hx2.cell 4;have z5:w2.cell? ⟨wr.heap.size,5,none⟩=some (.int .u64 (word s5 3:Nat)):=hx2.cell 5;have z6:w2.cell? ⟨wr.heap.size,6,none⟩=some (.slice a5 cZ.length cp5):=hx2.cell 6;have z7:w2.cell? ⟨wr.heap.size,7,none⟩=some (.int .i64 dh):=hx2.cell 7;have z8:w2.cell? ⟨wr.heap.size,8,none⟩=some (.int .i64 hi5):=hx2.cell 8)) | (go_at_call 140;go_must (refine(D7 (.mk k5 s5 a5 cp5 cZ dh hi5) _ (PD.out.kept hB2)).mono ?_;rintro e w3 ⟨rfl,hb3⟩;have hB3:=hB2.trans (hb3.mono hB2.size);rw[HRR.out])))
       go_ret
       exact⟨rfl,hB3⟩
      | true =>
       have hsu:=o9.out
       rw[hr] at hsu
       have IU:=ah hsu
       have HRR:=ah hr
       clear hn hr hsu
       go_wp2_with (first | (go_at_call 62;go_must (refine(wX.out _).mono ?_;rintro e w2 ⟨rfl,hb2⟩;have hx2:=hbx.kept hb2;have hM2:=(hM.alloc (.cells (iW (nm,.mk k5 s5 a5 cp5 cZ dh hi5)).toArray 153)).kept hb2;have hlk:=lJ hM2 mX Tryz.underlying137 (hz w2) nm;rw[ET.out] at hlk;have hB2:=hB1.trans (hb2.mono hB1.size);have z0:w2.cell? ⟨wr.heap.size,0,none⟩=some (sv nm):=hx2.cell 0;have z1:w2.cell? ⟨wr.heap.size,1,none⟩=some (.int .i64 k5):=hx2.cell 1;have z2:w2.cell? ⟨wr.heap.size,2,none⟩=some (.int .u64 (word s5 0:Nat)):=hx2.cell 2;have z3:w2.cell? ⟨wr.heap.size,3,none⟩=some (.int .u64 (word s5 1:Nat)):=hx2.cell 3;have z4:w2.cell? ⟨wr.heap.size,4,none⟩=some (.int .u64 (word s5 2:Nat)):=hx2.cell 4;have z5:w2.cell? ⟨wr.heap.size,5,none⟩=some (.int .u64 (word s5 3:Nat)):=hx2.cell 5;have z6:w2.cell? ⟨wr.heap.size,6,none⟩=some (.slice a5 cZ.length cp5):=hx2.cell 6;have z7:w2.cell? ⟨wr.heap.size,7,none⟩=some (.int .i64 dh):=hx2.cell 7;have z8:w2.cell? ⟨wr.heap.size,8,none⟩=some (.int .i64 hi5):=hx2.cell 8)) | (go_at_call 140;go_must (refine(D7 (.mk k5 s5 a5 cp5 cZ dh hi5) _ (PD.out.kept hB2)).mono ?_;rintro e w3 ⟨rfl,hb3⟩;have hB3:=hB2.trans (hb3.mono hB2.size);rw[HRR.out];have hx3:=hx2.kept hb3;have x0:w3.cell? ⟨wr.heap.size,0,none⟩=some (sv nm):=hx3.cell 0;obtain⟨w4,hput,hm4,mM,D8,Cm⟩:=(hM2.kept hb3).sN mX Tryz.underlying137 nm (.bool true))))
       have hB4:=hB3.trans (Cm w.heap.size (Nat.le_refl _))
       have hm5:aK w4 w.heap.size (fun s:List UInt8=>sv s) (wu (Rs.take (k+1))):=by
        rw[kV] at hm4
        ·rw[uz.out,wu,List.map_append];exact hm4
        ·cases hlk2:look nm (wu (Rs.take k)) with
         | none=>rfl
         | some z =>
          obtain⟨p,hp,hpe⟩:=Ed hlk2
          rw[wu,List.mem_map] at hp
          obtain⟨q,_,rfl⟩:=hp
          have h9:=ET.out
          rw[hlk2] at h9
          cases hpe
          cases h9
       refine⟨⟨k+1,hlt,by push_cast;rfl,IU.out,hm5,hB4⟩,by simp[intOf];omega⟩
   ·obtain rfl:k=n:=by omega
    have hans:ANS=true:=by rw[←lC.out];exact hok
    subst hans
    clear hM
    go_wp2
    go_ret
    exact⟨rfl,hB⟩
end
section
open Go.RowKit
structure Y3 where
 l:Value
 e:Value
 a:Value
def Y3.has(V:Y3)(b:Nat):Prop:=V.l.ownBlock=some b∨V.e.ownBlock=some b∨V.a.ownBlock=some b
def MI(x:Nat×Nat):List Value:=[.int .i64 x.1,.int .i64 x.2]
def gI(x:Nat×aA×Nat):List Value:=[.int .i64 x.1,.int .u64 (word x.2.1 0:Nat),.int .u64 (word x.2.1 1:Nat),.int .u64 (word x.2.1 2:Nat),.int .u64 (word x.2.1 3:Nat),.int .i64 x.2.2]
theorem Tm:fD MI 2:=⟨fun _=>rfl,fun x u hu=>by simp[MI] at hu;rcases hu with rfl | rfl <;> rfl⟩
theorem xG:fD gI 6:=⟨fun _=>rfl,fun x u hu=>by simp[gI] at hu;rcases hu with rfl | rfl | rfl | rfl | rfl | rfl <;> rfl⟩
theorem abd:eu Tryz.prog 154 269 (.agg #[.int .i64 0,.int .i64 0]) 2 16:=⟨Tryz.underlying154,info_parts (by kernel_rfl),rfl,by decide⟩
theorem PE:eu Tryz.prog 155 276 (.agg #[.int .i64 0,.int .u64 0,.int .u64 0,.int .u64 0,.int .u64 0,.int .i64 0]) 6 48:=⟨Tryz.underlying155,info_parts (by kernel_rfl),rfl,by decide⟩
structure gW(w:World)(r base:Nat)(N:Nf)(V:Y3):Prop where
 box:Box w r #[.int .i64 N.states,.int .i64 0,V.l,V.e,V.a] 216
 li:Own w base 269 2 MI V.l N.links
 ed:Own w base 276 6 gI V.e N.edges
 ac:Own w base 3 1 aG V.a N.accept
 lt:r<base
 st:N.states=N.accept.length
theorem gW.kept{w w':World}{r base:Nat}{N:Nf}{V:Y3}(h:gW w r base N V)(hb:Below w.heap.size w w'):gW w' r base N V :=
 ⟨h.box.kept hb,h.li.kept hb,h.ed.kept hb,h.ac.kept hb,h.lt,h.st⟩
theorem gW.hasLt{w:World}{r base:Nat}{N:Nf}{V:Y3}(h:gW w r base N V)(g:Nat)(hg:V.has g):base≤g∧g<w.heap.size:=by
 rcases hg with hg | hg | hg
 ·exact h.li.bC g hg
 ·exact h.ed.bC g hg
 ·exact h.ac.bC g hg
structure Turned(r:Nat)(V V':Y3)(w w':World):Prop where
 os:w'.os=w.os
 tape:w'.tape=w.tape
 output:w'.output=w.output
 size:w.heap.size≤w'.heap.size
 block:∀ b,b<w.heap.size→b≠r→¬ V.has b→w'.heap[b]?=w.heap[b]?
 new:∀ g,V'.has g→V.has g∨w.heap.size≤g
theorem Turned.below{r:Nat}{V:Y3}{w w':World}(h:Below w.heap.size w w'):Turned r V V w w':=⟨h.os,h.tape,h.output,h.size,fun b hb _ _=>h.block b hb,fun _ hg=>.inl hg⟩
theorem Turned.trans{r:Nat}{V V1 V2:Y3}{a b c:World}(h:Turned r V V1 a b)(k:Turned r V1 V2 b c):Turned r V V2 a c :=
 ⟨k.os.trans h.os,k.tape.trans h.tape,k.output.trans h.output,Nat.le_trans h.size k.size,fun x hx hr hg=>(k.block x (Nat.lt_of_lt_of_le hx h.size) hr fun e=>by
  rcases h.new x e with h1 | h1
  ·exact hg h1
  ·omega).trans (h.block x hx hr hg),fun g hg=>by
  rcases k.new g hg with h1 | h1
  ·exact h.new g h1
  ·exact .inr (Nat.le_trans h.size h1)⟩
theorem Turned.box{r:Nat}{V V':Y3}{w w':World}{b:Nat}{c:Array Value}{E:TypeId}(h:Turned r V V' w w')(hx:Box w b c E)(hr:b≠r)(hv:¬ V.has b):Box w' b c E:=(h.block b hx.lt hr hv).trans hx
def QA(r base:Nat)(V:Y3)(N:Nf)(w:World)(u:Value)(e:Ending)(w':World):Prop:=e=.returned u∧∃ V',gW w' r base N V'∧Turned r V V' w w'
section
variable {w w1 w':World} {r base:Nat} {N:Nf} {V:Y3}
theorem gW.acc(h:gW w1 r base N V){k:Nat}{a':Option Addr}{cap':Nat}(ho:Own w' base 3 1 aG (.slice a' (N.accept.length+1) cap') (N.accept++[k]))(hg:w1.grownBy w' V.a.ownBlock) :
  gW ((w'.setCell ⟨r,4,none⟩ (.slice a' (N.accept.length+1) cap')).setCell ⟨r,0,none⟩ (.int .i64 ((N.states:Int)+1))) r base (N.state k) ⟨V.l,V.e,.slice a' (N.accept.length+1) cap'⟩:=by
 have hb:=(h.box.grown h.ac hg h.lt)
 refine⟨((hb.set 4 _).set 0 _),?_,?_,?_,h.lt,?_⟩
 ·exact((h.li.iL h.ac hg (by decide)).other _ _ h.lt).other _ _ h.lt
 ·exact((h.ed.iL h.ac hg (by decide)).other _ _ h.lt).other _ _ h.lt
 ·exact(ho.other _ _ h.lt).other _ _ h.lt
 ·show N.states+1=(N.accept++[k]).length
  rw[List.length_append,h.st];rfl
theorem gW.lnk(h:gW w1 r base N V){x:Nat×Nat}{a':Option Addr}{cap':Nat}(ho:Own w' base 269 2 MI (.slice a' (N.links.length+1) cap') (N.links++[x]))(hg:w1.grownBy w' V.l.ownBlock) :
  gW (w'.setCell ⟨r,2,none⟩ (.slice a' (N.links.length+1) cap')) r base (N.link x.1 x.2) ⟨.slice a' (N.links.length+1) cap',V.e,V.a⟩:=by
 have hb:=(h.box.grown h.li hg h.lt)
 refine⟨hb.set 2 _,ho.other _ _ h.lt,?_,?_,h.lt,h.st⟩
 ·exact(h.ed.iL h.li hg (by decide)).other _ _ h.lt
 ·exact(h.ac.iL h.li hg (by decide)).other _ _ h.lt
theorem Turned.grown{V V':Y3}(v v':Value)(hv:∀ g,v.ownBlock=some g→V.has g)(hg:w.grownBy w' v.ownBlock)(hf:v'.ownBlock=v.ownBlock∨v'.ownBlock=some w.heap.size)(hn:∀ g,V'.has g→V.has g∨v'.ownBlock=some g):Turned r V V' w w' :=
 ⟨hg.os,hg.tape,hg.output,hg.size,fun b hb _ h2=>hg.block b hb fun e=>h2 (hv b e.symm),fun g e=>by
  rcases hn g e with h1 | h1
  ·exact .inl h1
  ·rcases hf with hf | hf
   ·exact .inl (hv g (hf▸h1))
   ·rw[hf] at h1;cases h1;exact .inr (Nat.le_refl _)⟩
theorem Turned.set{V V':Y3}(h:Turned r V V' w w')(i:Nat)(u:Value):Turned r V V' w (w'.setCell ⟨r,i,none⟩ u) :=
 ⟨h.os,h.tape,h.output,(by rw[World.size_setCell];exact h.size),fun b hb h1 h2=>(heap_setCell_other w' ⟨r,i,none⟩ b u h1).trans (h.block b hb h1 h2),h.new⟩
end
theorem rU(r base k:Nat)(N:Nf)(V:Y3)(w:World)(h:gW w r base N V)(hb:base≤w.heap.size)(hN:N.accept.length≤1099511627776) :
  Calls Tryz.prog 144 #[.pointer (some ⟨r,0,none⟩),.int .i64 k] w (QA r base V (N.state k) w (.int .i64 N.states)):=by
 have hB0:=aj w (.cells #[.int .i64 k] 3)
 have h0:=h.kept hB0
 have hx0:=h0.box
 have z4:(w.alloc (.cells #[.int .i64 k] 3)).cell? ⟨r,4,none⟩=some V.a:=hx0.cell 4
 have y4:w.cell? ⟨r,4,none⟩=some V.a:=h.box.cell 4
 have hrl:=h.box.lt
 obtain⟨aa,ca,hva⟩:=h.ac.form
 have hst:=h.st
 have arB:N.states≤1099511627776:=by rw[hst];exact hN
 have H0:=ah h0
 rw[hva] at z4 y4
 have HV:=ah hva
 have Tn:=h0.ac
 rw[hva] at Tn
 clear h h0 hst hx0
 go_enter Tryz.func144,Tryz.ntmps144
 go_wp2_with (at_builtin;go_must (refine dB rfl _ _ 24 rfl FT bQ rfl Tn ⟨w.heap.size,0,none⟩ 1 k rfl (cu w [.int .i64 k] _) (by simp[maxLen];omega) (by omega) (by simp;omega) ?_;intro a7 c7 w7 fC bZ nP;have uM:(w.alloc (.cells #[.int .i64 k] 3)).grownBy w7 V.a.ownBlock:=(by rw[HV.out];exact bZ);have hx7:=H0.out.box.grown H0.out.ac uM H0.out.lt;have z7:w7.cell? ⟨r,4,none⟩=some V.a:=hx7.cell 4;have z8:w7.cell? ⟨r,0,none⟩=some (.int .i64 N.states):=hx7.cell 0;have f7:=hx7.free 4;have f8:=hx7.free 0;have l7:=hx7.lt))
 go_ret
 refine⟨rfl,_,H0.out.acc fC uM,?_⟩
 refine(((Turned.below hB0).trans (Turned.grown V.a (.slice a7 (N.accept.length+1) c7) (fun g hg=>.inr (.inr hg)) uM (by rw[HV.out];exact nP) ?_)).set 4 _).set 0 _
 rintro g (hg | hg | hg)
 ·exact .inl (.inl hg)
 ·exact .inl (.inr (.inl hg))
 ·exact .inr hg
end
section
open Go.RowKit
structure yZ(w:World)(h n:Nat)(st:Nat×List Nat):Prop where
 bq:Box w (h+2) #[.pointer (some ⟨h+1,0,none⟩)] 353
 bits:gu w (h+1) h n st.1
 wq:∃ a cap,Box w (h+3) #[.slice a st.2.length cap] 24∧jA w (h+4) 3 (.slice a st.2.length cap) st.2
 size:h+4≤w.heap.size
theorem yZ.kept{w w':World}{h n:Nat}{st:Nat×List Nat}(H:yZ w h n st)(hb:Below w.heap.size w w'):yZ w' h n st:=by
 obtain⟨a,cap,h1,h2⟩:=H.wq
 exact⟨H.bq.kept hb,H.bits.kept hb,⟨a,cap,h1.kept hb,h2.kept hb⟩,Nat.le_trans H.size hb.size⟩
def wordAt(w:World)(g k:Nat):Nat:=match w.cell? ⟨g,k,none⟩ with | some (.int _ x)=>x.toNat | _=>0
def YD(w:World)(b:Nat):Nat:=match w.cell? ⟨b,0,none⟩ with | some (.slice _ n _)=>n | _=>0
def YE(w:World)(h n:Nat):Nat:=YD w (h+3)+((List.range n).filter fun i=>!(wordAt w h (i / 64)).testBit (i % 64)).length
theorem yZ.pot{w:World}{h n:Nat}{st:Nat×List Nat}(H:yZ w h n st):YE w h n=st.2.length+lacks n st.1:=by
 obtain⟨a,cap,h1,_⟩:=H.wq
 unfold YE
 have e1:YD w (h+3)=st.2.length:=by
  unfold YD
  rw[show w.cell? ⟨h+3,0,none⟩=some (.slice a st.2.length cap) from h1.cell 0]
 rw[e1]
 congr 1
 unfold lacks
 congr 1
 refine List.filter_congr fun i hi=>?_
 rw[List.mem_range] at hi
 have e2:wordAt w h (i / 64)=eH st.1 (i / 64):=by
  unfold wordAt
  rw[show w.cell? ⟨h,i / 64,none⟩=some (.int .u64 (eH st.1 (i / 64):Nat)) from(H.bits.words.cell _).trans (pG _ _ _ (by unfold dA;omega))]
  simp
 rw[e2,uV,decide_eq_true (Nat.mod_lt _ (by decide)),Bool.true_and,show 64*(i / 64)+i % 64=i by omega]
theorem aU.aiz{g B:Nat}{w w':World}(h:aU g w w')(hg:B≤g)(hs:B≤w.heap.size):Below B w w':=⟨h.os,h.tape,h.output,h.size,fun b hb=>h.block b (by omega) (by omega)⟩
def aiA(h n:Nat)(st:Nat×List Nat)(v:Value)(w:World)(e:Ending)(w':World):Prop:=e=.returned v∧yZ w' h n st∧Below h w w'
theorem WG(h n s:Nat)(st:Nat×List Nat)(w:World)(H:yZ w h n st)(hs:s≤1099511627776)(hl:st.2.length≤1048576) :
  Calls Tryz.prog 309 #[.int .i64 s,.pointer (some ⟨h+2,0,none⟩),.pointer (some ⟨h+3,0,none⟩)] w (aiA h n (jy n st s) (.tuple #[]) w):=by
 have hp:=Rf (h+1) h n st.1 s w H.bits hs
 have x0:w.cell? ⟨h+2,0,none⟩=some (.pointer (some ⟨h+1,0,none⟩)):=H.bq.cell 0
 obtain⟨a,cap,hb,ho⟩:=H.wq
 have hsz:=H.size
 by_cases hin:s<n∧st.1.testBit s=false
 ·have hpw:jy n st s=(st.1 ||| 1 <<< s,st.2++[s]):=by unfold jy;rw[if_pos hin]
  rw[hpw]
  have HP:Hid (∀ (R:Ending→World→Prop),(∀ w2,gu w2 (h+1) h n (st.1 ||| 1 <<< s)→aU h w w2→R (.returned (.bool true)) w2)→Calls Tryz.prog 284 #[.pointer (some ⟨h+1,0,none⟩),.int .i64 s] w R):=ah fun R hR=>hp.mono fun e w2 h2=>by
   unfold oz at h2
   rw[if_pos hin] at h2
   obtain⟨rfl,h3,h4⟩:=h2
   exact hR w2 h3 h4
  have HH:=ah H;have HB:=ah hb;have HO:=ah ho
  clear hp H hb ho hpw
  obtain⟨S,ws⟩:=st
  dsimp only at *
  go_enter Tryz.func309,Tryz.ntmps309
  go_wp2_with (first | (go_at_call 284;go_must (refine HP.out _ ?_;intro w2 hB2 hg2;have hbx2:=hg2.box HB.out (by omega);have ho2:=HO.out.same (w':=w2) (fun b hb1 hb2=>hg2.block b hb2 (by omega));have hs2:=hg2.size;have z0:=hbx2.cell 0;have f0:=hbx2.free 0;have l0:=hbx2.lt)) | (at_builtin;go_must (refine NW rfl _ _ 24 rfl eX rfl (ho2.kept (aj _ _)) (by simp only[World.size_alloc];omega) ⟨w2.heap.size,0,none⟩ 1 s rfl ((Box.new w2 _ _).cell 0) (by omega) ?_;intro a7 c7 w7 fC bZ;have ho3:=ho2.kept (aj w2 (.cells #[.int .i64 s] 3));have oP:=ho3.box (hbx2.alloc (.cells #[.int .i64 s] 3)) bZ (by omega);have z7:=oP.cell 0;have f7:=oP.free 0;have l7:=oP.lt))
  )
  go_end0
  have hB3:=hB2.kept (aj w2 (.cells #[.int .i64 s] 3))
  have hq3:=(hg2.box HH.out.bq (by omega)).kept (aj w2 (.cells #[.int .i64 s] 3))
  have anC:=bZ.size
  simp only[World.size_alloc] at anC
  refine⟨rfl,⟨(ho3.box hq3 bZ (by omega)).other _ _ (by simp),⟨(ho3.box hB3.box bZ (by omega)).other _ _ (by simp),(ho3.box hB3.words bZ (by omega)).other _ _ (by simp),hB3.lt,hB3.ne⟩,⟨a7,c7,?_,?_⟩,?_⟩,?_⟩
  ·rw[List.length_append,List.length_singleton];exact oP.set 0 _
  ·rw[List.length_append,List.length_singleton];exact fC.other _ _ (by simp)
  ·rw[World.size_setCell];omega
  ·exact(((hg2.aiz (Nat.le_refl _) (by omega)).trans ((aj w2 (.cells #[.int .i64 s] 3)).mono (by omega))).grown bZ (by simp only[World.size_alloc];omega) (fun k e=>by have:=(ho3.row k e).1;omega)).setCell (by simp) _
 ·have hpw:jy n st s=st:=by unfold jy;rw[if_neg hin]
  rw[hpw]
  have HP:Hid (Calls Tryz.prog 284 #[.pointer (some ⟨h+1,0,none⟩),.int .i64 s] w fun e w2=>e=.returned (.bool false)∧w2=w):=ah (hp.mono fun e w2 h2=>by
   unfold oz at h2
   rwa[if_neg hin] at h2)
  have HH:=ah H
  clear hp H hb ho hpw
  go_enter Tryz.func309,Tryz.ntmps309
  go_wp2_with (go_at_call 284;go_must (refine HP.out.mono ?_;rintro e w2 ⟨rfl,rfl⟩))
  go_end0
  exact⟨rfl,HH.out,Below.refl _ _⟩
end
end Go.Proofs.YtbemonecmmnlcaaGreatDoor
