/- The texts of E9, in few letters (mini.py). -/
import Derived.Test.YtengfapcaaacaaaGreatDoorF8
import Derived.Test.YtengfapcaaacaaaGreatDoorCards
import Derived.Test.YtengfapcaaacaaaGreatDoorTie
import Derived.Deep.DeepHandedRow
import Derived.Lib.LaidTab
set_option linter.unusedVariables false
set_option linter.unusedSimpArgs false
set_option maxHeartbeats 2000000
namespace Go.Proofs.YtengfapcaaacaaaGreatDoor
section
open Go.RowKit Go.Shelf
attribute [local go_sem] Oper.semAt_some
def CW:Vt→Bool
 | .mk k s _ _ kids lo hi=>fB k s kids.length lo hi
def Good(l:List Vt):Prop:=l.length≤4096∧∀ x∈l,CW x=true
theorem Good.snoc{l:List Vt}{x:Vt}(h:Good l)(hl:l.length+1≤4096)(hx:CW x=true):Good (l++[x]) :=
 ⟨by simpa using hl,fun y hy=>(List.mem_append.1 hy).elim (h.2 y) fun e=>by rw[List.mem_singleton.1 e];exact hx⟩
theorem Good.aah{l m:List Vt}(h:Good m)(hp:l <+: m):Good l:=⟨Nat.le_trans hp.length_le h.1,fun x hx=>h.2 x (hp.subset hx)⟩
theorem adl:∀ V:Vt,allT V.tr=true↔∀ x∈jD V,CW x=true:=by
 refine Vt.ind fun k s a cap kids lo hi ih=>?_
 have key:∀ l:List Vt,(∀ i (h:i<l.length),allT (Vt.tr l[i])=true↔∀ x∈jD l[i],CW x=true)→(vG (l.map Vt.tr)=true↔∀ x∈iI l,CW x=true):=by
  intro l
  induction l with
  | nil=>intro _;simp[vG,iI]
  | cons a l ihl =>
   intro h
   have h0:=h 0 (by simp)
   have h1:=ihl fun i hi=>h (i+1) (Nat.succ_lt_succ hi)
   simp only[List.getElem_cons_zero] at h0
   simp only[List.map_cons,vG,iI,Bool.and_eq_true,h0,h1,List.mem_append]
   constructor
   ·rintro⟨g0,g1⟩ x (hx | hx)
    ·exact g0 x hx
    ·exact g1 x hx
   ·exact fun g=>⟨fun x hx=>g x (.inl hx),fun x hx=>g x (.inr hx)⟩
 rw[Vt.jU]
 simp only[allT,jD,Bool.and_eq_true,key kids ih,List.length_map,List.mem_cons]
 constructor
 ·rintro⟨g0,g1⟩ x (rfl | hx)
  ·exact g0
  ·exact g1 x hx
 ·exact fun g=>⟨g _ (.inl rfl),fun x hx=>g x (.inr hx)⟩
theorem aai(V:Vt):jg V.tr=true↔Good (jD V):=by
 unfold jg Good
 rw[Bool.and_eq_true,adl,decide_eq_true_eq,adh]
def ahR(b B:Nat)(w:World)(pre:List Vt)(W:World):Prop:=(Box W (b+1) #[.bool false] 4∧Box W (b+1+1) #[.int .i64 (pre.length:Nat)] 3)∧(Good pre∧B≤W.heap.size)∧Below b w W
def ahS(b:Nat)(w:World)(c:Code)(pre:List Vt)(W:World):Prop:=c=.ret∧Box W (b+1) #[.bool false] 4∧¬ Good pre∧Below b w W
def ahT(b B:Nat)(V x:Vt)(a':Act)(W:World):Prop:=∃ Bx,B≤Bx∧Box W Bx x.cells.toArray 115 ∧
 a'={ tmps:=#[.agg V.cells.toArray,.pointer (some ⟨b,0,none⟩),.pointer (some ⟨b+1,0,none⟩),.pointer (some ⟨b+1+1,0,none⟩),.pointer (some ⟨Bx,0,none⟩),.agg V.cells.toArray,.func (.func 186) #[] #[.pointer (some ⟨b+1+1+1,0,none⟩)],.agg x.cells.toArray,undef,undef,undef,undef,undef,undef,undef,undef,undef],defers:=[] }
set_option maxRecDepth 100000 in
theorem DX(V:Vt)(w:World)(hL:Lies w V):Calls Tryz.prog 101 #[.agg V.cells.toArray] w (bF w (.bool (jg V.tr))):=by
 have hr:=aai V
 have hN:=adk V
 refine(callsIn_wide (n:=6)).1 ?_
 refine callsIn_of_wp_marks Tryz.func101 rfl trivial ?_ rfl
 obtain⟨k,s,a,cap,kids,lo,hi⟩:=V
 change Code.wpIn _ _ _ _ _ { tmps:=#[.agg (aI k s a kids.length cap lo hi).toArray]++_,defers:=[] } _
 change ∀ w,Calls _ _ #[.agg (aI k s a kids.length cap lo hi).toArray] _ _ at hN
 have HR:=ah hr
 clear hr
 simp only[Tryz.ntmps101,List.size_toArray,List.length_cons,List.length_nil,Nat.reduceAdd,Nat.reduceSub,Array.replicate_succ,Array.replicate_zero,List.push_toArray,List.append_toArray,List.nil_append,List.cons_append]
 gi_wp2_with (refine⟨trivial,?_⟩;gi_at_call 138;refine(callsIn_wide.2 (hN _)).mono ?_;rintro e w' ⟨rfl,rfl⟩)
 have hL0:=hL
 clear hL
 obtain⟨V,hV⟩:∃ V,V=Vt.mk k s a cap kids lo hi:=⟨_,rfl⟩
 rw[←hV] at hL0 HR ⊢
 have hVc:.agg (aI k s a kids.length cap lo hi).toArray=Value.agg V.cells.toArray:=by rw[hV];rfl
 rw[hVc]
 have HV:=ah hV
 clear hN hVc hV
 obtain⟨W0,hW0⟩:∃ W0,((((w.alloc (.cells (aI k s a kids.length cap lo hi).toArray 115)).alloc (.cells #[.bool false] 4)).alloc (.cells #[.int .i64 0] 3)).alloc (.cells V.cells.toArray 115))=W0:=⟨_,rfl⟩
 have hB0:Below w.heap.size w W0:=by rw[←hW0];go_grown
 have hsz0:W0.heap.size=w.heap.size+1+1+1+1:=by rw[←hW0];simp
 have hbt:Box W0 (w.heap.size+1+1+1) V.cells.toArray 115:=by rw[←hW0];exact Box.new' (by simp) _ _
 have hn0:Box W0 (w.heap.size+1+1) #[.int .i64 0] 3:=by rw[←hW0];exact(Box.new' (by simp) _ _).alloc _
 have hr0:Box W0 (w.heap.size+1) #[.bool false] 4:=by rw[←hW0];exact((Box.new' (by simp) _ _).alloc _).alloc _
 rw[hW0]
 clear hW0
 have hO:On (fun b=>¬ (b=w.heap.size+1∨b=w.heap.size+1+1)) V:=hL0.on.mono fun b hb=>by omega
 have hst:=Vd Fence.wide rfl 5 trivial trivial rfl (w.heap.size+1+1+1) (fun b=>b=w.heap.size+1∨b=w.heap.size+1+1) V W0 (fun b hb=>by omega) hbt (hL0.kept hB0) hO
 refine wpIn_rangeFunc_ownH rfl (by decide) (gf:=186) (lb:=#[.pointer (some ⟨w.heap.size+1+1+1,0,none⟩)]) rfl trivial (enters_of Tryz.func186 (by kernel_rfl) rfl)
  hst (fun h k=>h.trans k) GK (Below.refl _ _) (fun _=>rfl)
  (ahR w.heap.size W0.heap.size w) (ahS w.heap.size w)
  (OwnFrom.and (OwnFrom.and (iO _ _ _ _) (iO _ _ _ _)) (OwnFrom.and (fun _ _ _ _ h hg _=>⟨h.1,Nat.le_trans h.2 hg.size⟩) (ownFrom_below (Nat.le_refl _) (by omega))))
  (fun _=>OwnFrom.and (fun _ _ _ _ h _ _=>h) (OwnFrom.and (iO _ _ _ _) (OwnFrom.and (fun _ _ _ _ h _ _=>h) (ownFrom_below (Nat.le_refl _) (by omega)))))
  ⟨⟨hr0,hn0⟩,⟨⟨Nat.zero_le _,fun x h=>by simp at h⟩,Nat.le_refl _⟩,hB0⟩
  (ahT w.heap.size W0.heap.size V)
  (fun x a'=>fun s W W' row ⟨Bx,h1,h2,h3⟩ hg hr=>⟨Bx,h1,iO W0.heap.size Bx _ (fun _:Unit=>x.cells.toArray) () W W' row h2 hg hr,h3⟩) ?assign ?body ?done ?stop
 case assign =>
  rintro l pre ⟨k1,s1,a1,AY,yS,lo1,hi1⟩ W K ⟨⟨i1,i2⟩,⟨i3,hWs⟩,i4⟩ hK
  dsimp only[Qm]
  change Code.wpIn _ _ _ _ _ { tmps:=(#[7].zip #[Value.agg (aI k1 s1 a1 yS.length AY lo1 hi1).toArray]).foldl _ _,defers:=_ } _
  gi_wp2
  exact hK _ _ ((KeepsOthers.alloc _ _).from _) (aX.below ((Below.refl _ W).alloc (Nat.le_refl _) _)) ⟨⟨i1.alloc _,i2.alloc _⟩,⟨i3,by simp;omega⟩,i4.alloc i4.size _⟩ ⟨W.heap.size,hWs,Box.new W _ _,rfl⟩
 case body =>
  rintro l pre ⟨k1,s1,a1,AY,yS,lo1,hi1⟩ a' W hl ⟨r,hr⟩ ⟨⟨i1,i2⟩,⟨i3,hWs⟩,i4⟩ ⟨Bx,hBx,bx,rfl⟩ hlt
  have hpl:=i3.1
  have HG:=ah i3
  have r0:=i1.cell 0
  have r1:=i1.free 0
  have m0:=i2.cell 0
  have m1:=i2.free 0
  have bx':Box (W.setCell ⟨w.heap.size+1+1,0,none⟩ (.int .i64 ((pre.length:Int)+1))) Bx (aI k1 s1 a1 yS.length AY lo1 hi1).toArray 115:=bx.other _ _ (by simp;omega)
  have i2':Box (W.setCell ⟨w.heap.size+1+1,0,none⟩ (.int .i64 ((pre.length:Int)+1))) (w.heap.size+1+1) #[.int .i64 ((pre.length:Int)+1)] 3:=i2.set 0 _
  have Rt:Box (W.setCell ⟨w.heap.size+1+1,0,none⟩ (.int .i64 ((pre.length:Int)+1))) (w.heap.size+1) #[.bool false] 4:=i1.other _ _ (by simp)
  have hKO:=KeepsOthers.setCell W ⟨w.heap.size+1+1,0,none⟩ (.int .i64 ((pre.length:Int)+1))
  have hKC:=aX.set (X:=fun b=>b=w.heap.size+1∨b=w.heap.size+1+1) W ⟨w.heap.size+1+1,0,none⟩ (.int .i64 ((pre.length:Int)+1)) (.inr rfl)
  have hBe:=i4.setCell (p:=⟨w.heap.size+1+1,0,none⟩) (by simp;omega) (.int .i64 ((pre.length:Int)+1))
  obtain⟨x0,x1,x2,x3,x4,x5,x6,x7⟩:=bx'.node
  have hcast:((pre.length:Int)+1)=(((pre++[Vt.mk k1 s1 a1 AY yS lo1 hi1]).length:Nat):Int):=by simp
  have HC:=ah hcast
  have y1:=Rt.free 0
  have y2:=Rt.cell 0
  clear hcast i1 i2 bx bx' i3
  by_cases h4:4096<(pre.length:Int)+1
  ·gi_wp2
   refine⟨trivial,?_⟩
   gi_wp2
   refine⟨(hKO.trans (KeepsOthers.setCell _ _ _)).from _,rfl,Rt.set 0 _,fun hg=>?_,hBe.setCell (by simp) _⟩
   have:=hg.1
   simp at this
   omega
  ·have hal:=X7 k1 s1 a1 yS.length AY lo1 hi1
   cases ha:fB k1 s1 yS.length lo1 hi1 with
   | true =>
    rw[ha] at hal
    have HA:=ah ha
    clear ha
    gi_wp2_with (refine⟨trivial,?_⟩;gi_at_call 139;refine(CallsIn.inRound l (callsIn_wide.2 (hal _))).mono ?_;rintro e w1 ⟨rfl,hb⟩)
    refine⟨?_,hKC.trans (aX.below hb),⟨Rt.kept hb,by rw[←HC.out];exact i2'.kept hb⟩,⟨HG.out.snoc (by omega) HA.out,?_⟩,hBe.trans (hb.mono hBe.size)⟩
    ·exact(hKO.trans (KeepsOthers.of_grownBy (row:=none) ⟨hb.os,hb.tape,hb.output,hb.size,fun k hk _=>hb.block k hk⟩ (fun j o e=>by cases e))).from _
    ·have:=hKC.size;have:=hb.size;omega
   | false =>
    rw[ha] at hal
    have HA:=ah ha
    clear ha
    gi_wp2_with (refine⟨trivial,?_⟩;gi_at_call 139;refine(CallsIn.inRound l (callsIn_wide.2 (hal _))).mono ?_;rintro e w1 ⟨rfl,hb⟩;have z1:=(Rt.kept hb).free 0;have z2:=(Rt.kept hb).cell 0)
    refine⟨((hKO.trans (KeepsOthers.of_grownBy (row:=none) ⟨hb.os,hb.tape,hb.output,hb.size,fun k hk _=>hb.block k hk⟩ (fun j o e=>by cases e))).trans (KeepsOthers.setCell _ _ _)).from _,rfl,(Rt.kept hb).set 0 _,fun hg=>?_,(hBe.trans (hb.mono hBe.size)).setCell (by simp) _⟩
    have:=hg.2 _ (List.mem_append_right _ (List.mem_singleton_self _))
    rw[show CW (Vt.mk k1 s1 a1 AY yS lo1 hi1)=fB k1 s1 yS.length lo1 hi1 from rfl,HA.out] at this
    cases this
 case done =>
  rintro D ys W hD rfl ⟨⟨i1,i2⟩,⟨i3,hWs⟩,i4⟩ hK
  have r0:=i1.cell 0
  have r1:=i1.free 0
  have hR:jg V.tr=true:=HR.out.2 i3
  gi_wp2
  have hK':=(KeepsOthers.setCell W ⟨w.heap.size+1,0,none⟩ (.bool true)).same D _ hK rfl
  refine⟨by simp,.inl ⟨_,_,rfl,run_takeDeferred hK',?_⟩⟩
  have hc5:=(iO W0.heap.size (w.heap.size+1) 4 (fun _:Unit=>#[.bool true]) () _ _ (some D) (i1.set 0 (.bool true)) (grownBy_putObj' _ D (.deferred none)) (fun r e=>by cases e;exact⟨by omega,_,hK',rfl⟩)).cell 0
  refine⟨.bool true,?_,by rw[←HV.out,hR],(i4.setCell (p:=⟨w.heap.size+1,0,none⟩) (by simp) _).trans (belowK_b (w:=w) (Nat.le_refl _) _ D _ _ (by omega) hK' rfl rfl)⟩
  simp[results,Tryz.f101,go_sem,hc5]
 case stop =>
  rintro D c pre W hD hpre ⟨rfl,i1,i3,i4⟩ hK
  have hR:jg V.tr=false:=by rw[←Bool.not_eq_true,HR.out];exact fun hg=>i3 (hg.aah hpre)
  gi_wp2
  refine⟨by simp,.inl ⟨_,_,rfl,run_takeDeferred hK,?_⟩⟩
  have hc5:=(iO W0.heap.size (w.heap.size+1) 4 (fun _:Unit=>#[.bool false]) () _ _ (some D) i1 (grownBy_putObj' _ D (.deferred none)) (fun r e=>by cases e;exact⟨by omega,_,hK,rfl⟩)).cell 0
  refine⟨.bool false,?_,by rw[hR],i4.trans (belowK_b (w:=w) (Nat.le_refl _) W D _ _ (by omega) hK rfl rfl)⟩
  simp[results,Tryz.f101,go_sem,hc5]
end
section
open Go.ChangeShapes Go.WideShapes Go.ChangeAt Go.RowKit
theorem afb:laidOutB Tryz.pinned.checked.prog=true:=by kernel_rfl
theorem aak:mapsRowed Tryz.pinned.checked.prog=true:=by kernel_rfl
theorem aal:Tryz.pinned.checked.prog.stopsHeard=true:=by kernel_rfl
theorem aam:Tryz.pinned.checked.prog.mayEnter=true:=by kernel_rfl
theorem own:ownKnob Tryz.prog.godebug=none:=by kernel_rfl
theorem laidOut:laidOutB Tryz.prog=true:=by kernel_rfl
theorem gTab:Tryz.prog.globalNamed "math/bits.deBruijn64tab"=some 1:=by kernel_rfl
theorem Ru:(Tryz.prog.globals[1]?).map (·.type)=some 320:=by kernel_rfl
theorem Fz {W:World} (h:Lib.TabIs Tryz.prog W "math/bits.deBruijn64tab" .u8 (Lib.deBruijn64tab.map fun(x:Nat)=>(x:Int))):Tab W:=fun j hj=>by
 have:=h.cell gTab j (by simpa [Lib.deBruijn64tab] using hj)
 rw[this]
 have e:(Lib.deBruijn64tab.map fun(x:Nat)=>(x:Int)).getD j 0=((Lib.deBruijn64tab.getD j 0:Nat):Int):=by
  simp only[List.getD,List.getElem?_map]
  cases Lib.deBruijn64tab[j]? <;> rfl
 rw[e]
noncomputable def laidWorld(os:Os):World :=
 { World.holding Tryz.prog os ⟨#[],#[],[]⟩ with heap:=(World.holding Tryz.prog os ⟨#[],#[],[]⟩).heap.modify 1 fun
   | .cells _ t frozen=>.cells (Lib.deBruijn64tab.map fun(x:Nat)=>Value.int .u8 x).toArray t frozen
   | o=>o }
end
end Go.Proofs.YtengfapcaaacaaaGreatDoor
