/- The texts of S6, in few letters (mini.py). -/
import Derived.Test.YtbemonecmmnlcaaGreatDoorM5
set_option linter.unusedVariables false
set_option linter.unusedSimpArgs false
set_option maxHeartbeats 2000000
set_option maxRecDepth 20000
namespace Go.Proofs.YtbemonecmmnlcaaGreatDoor
section
open Go.RowKit
structure MS(X X':Nat→Prop)(A B:World)(row:Option Nat):Prop where
 grown:A.grownBy B row
 own:∀ r,row=some r→X r
 new:∀ b,X' b→X b∨(A.heap.size≤b∧b<B.heap.size)
def NW{α:Type}(P:Program)(gf:Nat)(lb:Array Value)(encs:α→Array Value)(Z:Nat→Prop)(S:List α→Prop)(N:Nat)(w:World):Prop :=
 ∀ (l:Nat) (J:List α→(Nat→Prop)→World→Prop) (W:World),Below w.heap.size w W →
  (∀ s X X' A B row,J s X A→MS X X' A B row→J s X' B) →
  (∀ s X A,J s X A→∀ b,X b→b<A.heap.size) →
  (∀ pre x X W1,J pre X W1→pre.length<N→YieldAt Fence.wide 0 P l (encs x) W1 fun e W'=>e=.returned (.bool true)∧J (pre++[x]) X W'∧W1.heap.size≤W'.heap.size∧∀ b,(X b∨Z b)→W'.heap[b]?=W1.heap[b]?) →
  J [] (fun _=>False) W →
  CallsIn Fence.wide 0 P gf (#[.func (.yield l) #[] #[]]++lb) W fun e W'=>(∃ v,e=.returned v)∧∃ xs X,S xs∧J xs X W'
def RF{α:Type}(B0:Nat)(I:List α→(Nat→Prop)→World→Prop):Prop :=
 ∀ s X X' A B row,I s X A→A.grownBy B row→(∀ r,row=some r→X r∨(B0≤r∧∃ o:Obj,A.heap[r]?=some o∧o.isCells=false))→(∀ b,X' b→X b∨(A.heap.size≤b∧b<B.heap.size))→I s X' B
def Wn{α:Type}(I:List α→(Nat→Prop)→World→Prop)(Z X:Nat→Prop)(xs:List α)(W:World):Exit→Act→World→Prop
 | .normal,_,W'=>KeepsOthers W W'∧(∀ b,(X b∨Z b)→W'.heap[b]?=W.heap[b]?)∧I xs X W'
 | _,_,_=>False
theorem TS{α:Type}{P:Program}{g:Operand}{ps:Array Tmp}{assign body:Code}{Q:Exit→Act→World→Prop}{a:Act}{w:World}{gf:Nat}{lb:Array Value}
  (hg:a.eval g=.func (.func gf) #[] lb) (eg:∀ args w,(callFunc gf args).run P w=.ok (.enter gf args) w)
  {encs:α→Array Value} {Z:Nat→Prop} {S:List α→Prop} {N:Nat} {w0:World} (hseq:NW P gf lb encs Z S N w0) (hb0:Below w0.heap.size w0 w) (hZ:∀ b,Z b→b<w.heap.size) (hps:∀ x,(encs x).size=ps.size)
  (I:List α→(Nat→Prop)→World→Prop) (hI:RF w.heap.size I) (h0:I [] (fun _=>False) w) (a1:α→Act)
  (hassign:∀ (l:Nat) (x:α) (W:World) (K:Act→World→Prop),K (a1 x) W →
   assign.wpIn (Fence.wide.inRound l) 0 P (Exit.then K (fun _ _ _=>False)) { tmps:=(ps.zip (encs x)).foldl (fun t (p,v)=>t.setIfInBounds p v) a.tmps,defers:=[] } W)
  (hbody:∀ (l:Nat) (pre:List α) (x:α) (X:Nat→Prop) (W:World),I pre X W→(∀ b,X b→w.heap.size≤b∧b<W.heap.size)→w.heap.size≤W.heap.size→pre.length<N→body.wpIn (Fence.wide.inRound l) 0 P (Wn I Z X (pre++[x]) W) (a1 x) W)
  (hdone:∀ (D:Nat) (xs:List α) (X:Nat→Prop) (W:World),w.heap.size≤D→S xs→I xs X W→W.heap[D]?=some (.deferred (some []))→Q .normal { a with defers:={ target:=.collected D,args:=#[] }::a.defers } W) :
  (Code.rangeFunc g ps assign body).wpIn Fence.wide 0 P Q a w:=by
 refine wpIn_rangeFunc ?_
 intro fn hfn
 obtain⟨rec,hrec⟩:∃ rec:LoopState→Option Code→Loop,rec=fun st pe=>{ state:=st,pending:=pe,fn,tmps:=a.tmps,params:=ps,assign,body,defers:=w.heap.size }:=⟨_,rfl⟩
 obtain⟨W1,hW1⟩:∃ W1,(w.alloc (.deferred (some []))).alloc (.loop (rec .ready none))=W1:=⟨_,rfl⟩
 have hL1:W1.heap[w.heap.size+1]?=some (.loop (rec .ready none)):=by
  rw[←hW1];have:=World.alloc_heap_new (w.alloc (.deferred (some []))) (.loop (rec .ready none));rwa[World.size_alloc] at this
 have hK1:W1.heap[w.heap.size]?=some (.deferred (some [])):=by
  rw[←hW1];exact(Below.heap_alloc _ _ _ (by simp)).trans (World.alloc_heap_new w _)
 have hI1:I [] (fun _=>False) W1:=by
  rw[←hW1]
  exact hI _ _ _ _ _ none (hI _ _ _ _ _ none h0 (World.grownBy_alloc w _ none) (fun _ e=>by cases e) (fun _ e=>.inl e)) (World.grownBy_alloc _ _ none) (fun _ e=>by cases e) (fun _ e=>.inl e)
 have hs1:W1.heap.size=w.heap.size+2:=by rw[←hW1];simp
 have hb1:Below w0.heap.size w0 W1:=by
  rw[←hW1];exact hb0.trans ((((Below.refl _ w).alloc (Nat.le_refl _) _).alloc (by simp) _).mono hb0.size)
 refine⟨w.heap.size+1,[{ target:=.collected w.heap.size,args:=#[] }],W1,{ target:=.fn (.func gf) lb,args:=#[.func (.yield (w.heap.size+1)) #[] #[]] },W1,gf,
  #[.func (.yield (w.heap.size+1)) #[] #[]]++lb,W1,?_,?_,?_,?_,(fun h=>by cases h),?_⟩
 ·rw[←hW1,hrec];exact run_enterLoop_outer _ _ _ _ _
 ·simp only[resolve,hg]
  simp[go_sem]
 ·intro f' hf';exact trivial
 ·simp[invoke,go_sem,eg]
 ·refine(hseq (w.heap.size+1)
   (fun pre X W=>I pre X W∧(∀ b,X b→w.heap.size+2≤b∧b<W.heap.size)∧w.heap.size+2≤W.heap.size∧W.heap[w.heap.size+1]?=some (.loop (rec .ready none))∧W.heap[w.heap.size]?=some (.deferred (some [])))
   W1 hb1 ?_ (fun s X A h b hb=>(h.2.1 b hb).2) ?_ ⟨hI1,fun _ h=>h.elim,by omega,hL1,hK1⟩).mono ?_
  ·rintro s X X' A B row ⟨hi,hx,hz,hl,hk⟩ ht
   have hsz:=ht.grown.size
   have hne:∀ k,k<w.heap.size+2→B.heap[k]?=A.heap[k]?:=fun k hk=>ht.grown.block k (by omega) (fun e=>by have:=hx k (ht.own k e.symm);omega)
   refine⟨hI s X X' A B row hi ht.grown (fun r e=>.inl (ht.own r e)) ht.new,fun b hb=>?_,by omega,(hne _ (by omega)).trans hl,(hne _ (by omega)).trans hk⟩
   rcases ht.new b hb with h | ⟨h1,h2⟩
   ·have:=hx b h;exact⟨this.1,by omega⟩
   ·exact⟨by omega,h2⟩
  ·rintro pre x X W ⟨hi,hx,hz,hl,hk⟩ hlen
   have hlt:w.heap.size+1<W.heap.size:=(Array.getElem?_eq_some_iff.1 hl).1
   have hy:=run_yield (P:=P) (args:=encs x) hl (by rw[hrec];exact hps x)
   rw[hrec] at hy
   refine⟨fn,_,assign,body,hy,roundIn_of_wpIn hfn (hassign _ x W _ ⟨_,run_beginRound hl (by rw[hrec]),?_⟩)⟩
   obtain⟨W2,hW2⟩:∃ W2,W.putObj (w.heap.size+1) (.loop { rec .ready none with state:=.busy })=W2:=⟨_,rfl⟩
   have hl2:W2.heap[w.heap.size+1]?=some (.loop { rec .ready none with state:=.busy }):=by rw[←hW2];exact World.putObj_heap_same hlt
   have hk2:W2.heap[w.heap.size]?=some (.deferred (some [])):=by rw[←hW2];exact(World.putObj_heap_other (by omega)).trans hk
   have hz2:W2.heap.size=W.heap.size:=by rw[←hW2];simp
   have ho2:∀ b,b≠w.heap.size+1→W2.heap[b]?=W.heap[b]?:=fun b hb=>by rw[←hW2];exact World.putObj_heap_other hb
   have hi2:I pre X W2:=by
    rw[←hW2]
    exact hI _ _ _ _ _ (some _) hi (grownBy_putObj' W _ _) (fun r e=>by cases e;exact .inr ⟨by omega,_,hl,rfl⟩) (fun b hb=>.inl hb)
   refine wpIn_mono (hW2▸hbody _ pre x X W2 hi2 (fun b hb=>by have:=hx b hb;omega) (by omega) hlen) ?_
   rintro e a3 W3 hp
   cases e with
   | normal =>
    obtain⟨hk3,hs3,hi3⟩:=hp
    have hl3:=hk3.same _ _ (hW2▸hl2) rfl
    have hk4:=hk3.same _ _ (hW2▸hk2) rfl
    have hsz3:=hk3.size
    have hend:=run_endRound (P:=P) none hl3
    have hsz2:=hz2
    rw[←hW2] at hsz2
    refine⟨_,_,hend,rfl,⟨?_,?_,?_,?_,?_⟩,?_,?_⟩
    ·exact hI _ _ _ _ _ (some _) hi3 (grownBy_putObj' W3 _ _) (fun r e=>by cases e;exact .inr ⟨by omega,_,hl3,rfl⟩) (fun b hb=>.inl hb)
    ·intro b hb
     rw[World.putObj_size]
     have:=hx b hb
     exact⟨this.1,by omega⟩
    ·rw[World.putObj_size];omega
    ·rw[World.putObj_heap_same (Array.getElem?_eq_some_iff.1 hl3).1,hrec];rfl
    ·exact(World.putObj_heap_other (by omega)).trans hk4
    ·rw[World.putObj_size];omega
    ·intro b hb
     have hne:b≠w.heap.size+1:=by
      rcases hb with h | h
      ·have:=hx b h;omega
      ·have:=hZ b h;omega
     rw[World.putObj_heap_other hne,hs3 b hb,World.putObj_heap_other hne]
   | _=>exact hp.elim
  ·rintro e W2 ⟨⟨v,rfl⟩,xs,X,hS,hi,hx,hz,hl,hk⟩
   refine⟨none,_,by have:=run_endLoop (P:=P) hl (by rw[hrec];simp);rw[hrec] at this;exact this,hdone _ xs X _ (Nat.le_refl _) hS ?_ ((World.putObj_heap_other (by omega)).trans hk)⟩
   exact hI _ _ _ _ _ (some _) hi (grownBy_putObj' W2 _ _) (fun r e=>by cases e;exact .inr ⟨by omega,_,hl,rfl⟩) (fun b hb=>.inl hb)
end
section
open Go.RowKit
structure kG{α:Type}(w:World)(base E size:Nat)(enc:α→List Value)(grp:Nat→List α)(vs:Nat→Value):Prop where
 own:∀ s,Own w base E size enc (vs s) (grp s)
 mO:∀ s t,s≠t→∀ g,(vs s).ownBlock=some g→(vs t).ownBlock≠some g
def jA{β:Type}(f:Nat→β)(s:Nat)(v:β)(t:Nat):β:=if t=s then v else f t
theorem kC{β:Type}(f:Nat→β)(s:Nat)(v:β):jA f s v s=v:=if_pos rfl
theorem jD{β:Type}(f:Nat→β){s t:Nat}(v:β)(h:t≠s):jA f s v t=f t:=if_neg h
section
variable {α:Type} {w w' w'':World} {base E size:Nat} {enc:α→List Value} {grp:Nat→List α} {vs:Nat→Value}
theorem kG.new(w:World)(base E size:Nat)(enc:α→List Value):kG w base E size enc (fun _=>[]) (fun _=>.slice none 0 0) :=
 ⟨fun _=>Own.nil _ _ _ _ _,fun _ _ _ g hg=>by cases hg⟩
theorem kG.same(h:kG w base E size enc grp vs)(hb:∀ b,base≤b→b<w.heap.size→w'.heap[b]?=w.heap[b]?):kG w' base E size enc grp vs :=
 ⟨fun s=>(h.own s).same fun g hg=>hb g ((h.own s).blk hg).1 ((h.own s).blk hg).2,h.mO⟩
theorem kG.kept(h:kG w base E size enc grp vs)(hb:Below w.heap.size w w'):kG w' base E size enc grp vs:=h.same fun b _ hl=>hb.block b hl
theorem kG.put(h:kG w base E size enc grp vs)(s:Nat)(y:α){v':Value}(ho:Own w' base E size enc v' (grp s++[y]))(hg:w.grownBy w' (vs s).ownBlock)(hf:v'.ownBlock=(vs s).ownBlock∨v'.ownBlock=some w.heap.size) :
  kG w' base E size enc (jA grp s (grp s++[y])) (jA vs s v'):=by
 have fresh:∀ t,t≠s→∀ g,v'.ownBlock=some g→(vs t).ownBlock≠some g:=fun t ht g h1 h2=>by
  rcases hf with e | e
  ·exact h.mO t s ht g h2 (e▸h1)
  ·rw[e] at h1
   cases h1
   have:=((h.own t).blk h2).2
   omega
 refine⟨fun t=>?_,fun t u hne g hg1 hg2=>?_⟩
 ·by_cases e:t=s
  ·subst e;rw[kC,kC];exact ho
  ·rw[jD _ _ e,jD _ _ e]
   have h1:=h.own t
   exact h1.same fun g hgg=>hg.block g (h1.blk hgg).2 fun e2=>h.mO t s e g hgg e2.symm
 ·by_cases e1:t=s
  ·subst e1
   rw[kC] at hg1
   rw[jD _ _ (fun e=>hne e.symm)] at hg2
   exact fresh u (fun e=>hne e.symm) g hg1 hg2
  ·rw[jD _ _ e1] at hg1
   by_cases e2:u=s
   ·subst e2
    rw[kC] at hg2
    exact fresh t e1 g hg2 hg1
   ·rw[jD _ _ e2] at hg2
    exact h.mO t u hne g hg1 hg2
theorem kG.yI{y:α}{s:Nat}(h:kG w base E size enc grp vs)(k:gK base E size enc (vs s) (grp s) y w w'):kG w' base E size enc grp vs:=by
 refine⟨fun t=>?_,h.mO⟩
 by_cases e:t=s
 ·subst e;exact k.own (h.own t)
 ·exact(h.own t).same fun g hg=>k.block g ((h.own t).blk hg).2 fun e2=>h.mO t s e g hg e2
theorem kG.zZ{w0:World}{y:α}{s:Nat}{v':Value}(h0:kG w0 base E size enc grp vs)(h:kG w base E size enc (jA grp s (grp s++[y])) (jA vs s v'))(k:gK base E size enc (vs s) (grp s) y w w') :
  kG w' base E size enc (jA grp s (grp s++[y])) (jA vs s v'):=by
 refine⟨fun t=>?_,h.mO⟩
 have h1:=h.own t
 by_cases e:t=s
 ·subst e
  have e1:jA grp t (grp t++[y]) t=grp t++[y]:=kC _ _ _
  have e2:jA vs t v' t=v':=kC _ _ _
  rw[e1,e2] at h1 ⊢
  exact k.Gn _ h1
 ·refine h1.same fun g hg=>k.block g (h1.blk hg).2 fun e2=>?_
  rw[jD _ _ e] at hg
  exact h0.mO t s e g hg e2
theorem kG.TT(h:kG w base E size enc grp vs){s b:Nat}(hb:b<base∨w.heap.size≤b):(vs s).ownBlock≠some b:=fun e=>by
 have:=(h.own s).blk e;omega
end
def sF(n:Nat)(vs:Nat→Value):Array Value:=((List.range n).map vs).toArray
theorem yJ(n:Nat)(vs:Nat→Value):(sF n vs).size=n:=by unfold sF;simp
theorem uF{n:Nat}{vs:Nat→Value}{i:Nat}(h:i<n):(sF n vs)[i]?=some (vs i):=by unfold sF;simp[h]
theorem Za(n:Nat)(vs:Nat→Value)(s:Nat)(v:Value):(sF n vs).setIfInBounds s v=sF n (jA vs s v):=by
 apply Array.ext_getElem?
 intro i
 by_cases hi:i<n
 ·rw[uF hi,Array.getElem?_setIfInBounds,yJ,uF hi]
  by_cases e:s=i
  ·subst e;rw[if_pos rfl,if_pos hi,kC]
  ·rw[if_neg e,jD _ _ (fun h=>e h.symm)]
 ·rw[Array.getElem?_eq_none (by rw[Array.size_setIfInBounds,yJ];omega),Array.getElem?_eq_none (by rw[yJ];omega)]
theorem NY(n:Nat)(vs:Nat→Value)(s:Nat)(v:Value)(h:n≤s):sF n (jA vs s v)=sF n vs:=by
 unfold sF
 congr 1
 refine List.map_congr_left fun i hi=>?_
 have:=List.mem_range.1 hi
 exact jD _ _ (by omega)
end
section
open Go.RowKit Go.Shelf
attribute [local go_sem] Oper.semAt_some
def Tab(w:World):Prop:=∀ j,j<64→w.cell? ⟨1,j,none⟩=some (.int .u8 (Lib.deBruijn64tab.getD j 0))
theorem Tab.block{w:World}(h:Tab w):∃ o,w.heap[1]?=some o∧o.isCells=true:=cells_of_cell (h 0 (by decide))
theorem Tab.EC{X:Nat→Prop}{w w':World}(h:Tab w)(hx:¬ X 1)(hk:aJ X w w'):Tab w':=fun j hj=>hk.cell hx (h j hj)
theorem Tab.kept{w w':World}(h:Tab w)(hb:Below w.heap.size w w'):Tab w':=h.EC (X:=fun _=>False) id (aJ.below hb)
theorem Tab.pos{w:World}(h:Tab w):1<w.heap.size:=by obtain⟨o,ho,_⟩:=h.block;exact(Array.getElem?_eq_some_iff.1 ho).1
theorem adP(x a:Nat)(hx:x<18446744073709551616)(hx0:x≠0)(hlow:x &&& (18446744073709551616 - x)=a) :
  IntKind.u64.wrap (bits BinOp.and IntKind.u64 (x:Int) (IntKind.u64.wrap (-(x:Int)))*285870213051353865) / 288230376151711744=((a*285870213051353865 % 18446744073709551616 / 288230376151711744:Nat):Int):=by
 have e1:IntKind.u64.wrap (-(x:Int))=((18446744073709551616 - x:Nat):Int):=by rw[IntKind.wrap_u64];omega
 rw[e1,bits_and_u64_nat x _ hx (by omega),hlow,IntKind.wrap_u64]
 omega
theorem tz64_core(x k idx:Nat)(w:World)(hx0:((x:Int)==0)=false)
  (key:IntKind.u64.wrap (bits BinOp.and IntKind.u64 (x:Int) (IntKind.u64.wrap (-(x:Int)))*285870213051353865) / 288230376151711744=(idx:Int))
  (hi:idx<64) (hcell:w.cell? ⟨1,idx,none⟩=some (.int .u8 k)) (hk:k<64) :
  Calls Tryz.prog 244 #[.int .u64 x] w fun e w'=>e=.returned (.int .i64 k)∧w'=w:=by
 go_enter Tryz.func244,Tryz.ntmps244
 go_wp2_with (simp only[key])
 go_ret
 exact⟨rfl,rfl⟩
theorem adQ(x:Nat)(h0:x≠0)(hx:x<18446744073709551616)(w:World)(hT:Tab w) :
  Calls Tryz.prog 244 #[.int .u64 x] w fun e w'=>e=.returned (.int .i64 (Lib.ctz 64 x:Nat))∧w'=w:=by
 obtain⟨hlow,hk⟩:=Lib.lowest_bit 64 x h0 hx
 obtain⟨hi,htab⟩:=Lib.deBruijn64_at _ hk
 have hcell:=hT _ hi
 rw[htab] at hcell
 exact tz64_core x _ _ w (by simp;omega) (adP x _ hx h0 hlow) hi hcell hk
abbrev NZ(x:Nat):Array Value:=#[.int .u8 x]
def acR(X:Nat→Prop)(J:List Nat→World→Prop)(s:ay)(W wr:World)(i:Value):Prop :=
 ∃ j pre,j≤4∧i=.int .i64 (j:Nat)∧pre++wP s j (4 - j)=elems s∧J pre wr∧aJ X W wr
def Zb(X:Nat→Prop)(J:List Nat→World→Prop)(s:ay)(j:Nat)(W wr:World)(v:Value):Prop :=
 ∃ u pre:_,u<18446744073709551616∧v=.int .u64 (u:Nat)∧pre++(jq j u++wP s (j+1) (3 - j))=elems s∧J pre wr∧aJ X W wr
theorem N7(u:Nat)(h0:u≠0)(h:u<18446744073709551616):bits BinOp.and IntKind.u64 (u:Int) ((u:Int) - 1)=((u &&& (u - 1):Nat):Int):=by
 rw[show((u:Int) - 1)=((u - 1:Nat):Int) by omega,bits_and_u64_nat u _ h (by omega)]
set_option maxRecDepth 100000 in
theorem Zc(n l Bs:Nat)(X:Nat→Prop)(N8:¬ X 1)(J Jx:List Nat→World→Prop)(s:ay)
  (hY:∀ pre x W,J pre W→pre.length<(elems s).length→x<256→YieldAt Fence.wide (n - 1) Tryz.prog l (NZ x) W fun e W'=>(e=.returned (.bool true)∧J (pre++[x]) W'∧aJ X W W')∨(e=.returned (.bool false)∧Jx (pre++[x]) W'))
  (W:World) (hT:Tab W) (hBs:Box W Bs (dX s) 149) (h0:J [] W) :
  CallsIn Fence.wide n Tryz.prog 243 #[.func (.yield l) #[] #[],.pointer (some ⟨Bs,0,none⟩)] W fun e W'=>(∃ v,e=.returned v)∧((∃ ys,ys=elems s∧J ys W')∨(∃ pre,pre <+: elems s∧Jx pre W')):=by
 obtain⟨c0,c1,c2,c3⟩:=hBs.FY
 refine callsIn_of_wp Tryz.func243 rfl trivial ?_ rfl
 simp only[Tryz.ntmps243,List.size_toArray,List.length_cons,List.length_nil,Nat.reduceAdd,Nat.reduceSub,Array.replicate_succ,Array.replicate_zero,List.push_toArray,List.append_toArray,List.nil_append,List.cons_append]
 gi_wp2
 gi_loopw [6] (fun i wr=>acR X J s W wr i) (fun i _=>4 - (intOf i).toNat)
 case atStart=>exact⟨0,[],by omega,rfl,by rw[List.nil_append];exact(ET s).symm,h0,aJ.refl _ _⟩
 case round =>
  obtain⟨j,pre,hj,rfl,he,ug,hkr⟩:=hrel
  by_cases hlt:j<4
  ·have gw:=CW s j hlt
   have hdj:decide ((j:Int)<4)=true:=decide_eq_true (by omega)
   rw[show 4 - j=(3 - j)+1 by omega,wP] at he
   have hu:=word_lt s j
   generalize word s j=u0 at *
   gi_wp2
   gi_loopw [4] (fun v wr=>Zb X J s j W wr v) (fun v _=>(intOf v).toNat)
   case atStart=>exact⟨_,pre,hu,rfl,he,ug,hkr⟩
   case round =>
    obtain⟨u,pre,hu,rfl,he,ug,hkr⟩:=hrel
    by_cases hz:u=0
    ·subst hz
     rw[jq,ES,List.map_nil,List.nil_append] at he
     gi_wp2
     exact⟨⟨j+1,pre,hlt,by simp,by rw[show 4 - (j+1)=3 - j by omega];exact he,ug,hkr⟩,by simp[intOf];omega⟩
    ·have hne:((u:Int) != 0)=true:=by simp;omega
     obtain⟨hls,hk,hdec⟩:=Ns u hz hu
     have hand:=N7 u hz hu
     have xK:jq j u=(64*j+Lib.ctz 64 u)::jq j (u &&& (u - 1)):=by rw[jq,hls];rfl
     have hl:pre.length<(elems s).length:=by
      rw[←he,jq,hls];simp
     have Dc:=hY pre (64*j+Lib.ctz 64 u) wr ug hl (by omega)
     rw[show NZ (64*j+Lib.ctz 64 u)=#[.int .u8 ((j:Int)*64+(Lib.ctz 64 u:Nat))] by simp only[NZ];rw[show((64*j+Lib.ctz 64 u:Nat):Int)=(j:Int)*64+(Lib.ctz 64 u:Nat) by omega]] at Dc
     obtain⟨fn,tmps,assign,body,hy,hR⟩:=Dc
     have HT:=ah (hT.EC N8 hkr)
     have TZ:=fun w hT=>adQ u hz hu w hT
     generalize Lib.ctz 64 u=k at *
     have hdd:∀ k:Nat,(Fence.wide.depth.isSome=true→1≤k):=fun k h=>by cases h
     gi_wp2_with (first | (refine⟨trivial,hdd _,?_⟩;gi_at_call 244;go_must (refine(callsIn_wide.2 (TZ _ HT.out)).mono ?_;rintro e w1 ⟨rfl,rfl⟩)) | (refine⟨hdd _,?_⟩;refine hR.mono ?_;clear hR;rintro e W2 (⟨rfl,hJ2,hk2⟩ | ⟨rfl,hx2⟩)))
     ·refine⟨⟨u &&& (u - 1),pre++[64*j+k],by omega,rfl,?_,hJ2,hkr.trans hk2⟩,by simp[intOf];omega⟩
      rw[←he,xK];simp
     ·refine bodyPost_ret (results_none rfl _ _ _) rfl ?_
      refine⟨⟨_,rfl⟩,.inr ⟨_,?_,hx2⟩⟩
      rw[←he,xK]
      exact⟨jq j (u &&& (u - 1))++wP s (j+1) (3 - j),by simp⟩
  ·obtain rfl:j=4:=by omega
   rw[show wP s 4 (4 - 4)=[] from rfl,List.append_nil] at he
   subst he
   gi_wp2
   go_end0
   exact⟨⟨_,rfl⟩,.inl ⟨_,rfl,ug⟩⟩
theorem TU(n Bs:Nat)(X:Nat→Prop)(s:ay)(w:World)(N8:¬ X 1)(hT:Tab w)(hBs:Box w Bs (dX s) 149) :
  SeqStopsK Fence.wide n Tryz.prog 243 #[.pointer (some ⟨Bs,0,none⟩)] NZ (aJ X) (fun ys=>ys=elems s) (fun pre=>pre <+: elems s) (elems s).length w:=fun l J Jx W hW _ _ hY h0 =>
 Zc n l Bs X N8 J Jx s (fun pre x W hj hl _=>hY pre x W hj hl) W (hT.kept hW) (hBs.kept hW) h0
theorem acS(s:ay)(w:World):Calls Tryz.prog 201 #[.agg (dX s)] w fun e w'=>e=.returned (.func (.func 243) #[] #[.pointer (some ⟨w.heap.size,0,none⟩)])∧w'=w.alloc (.cells (dX s) 149):=by
 go_enter Tryz.func201,Tryz.ntmps201
 go_wp2
 go_ret
 exact⟨rfl,rfl⟩
end
section
open Go.RowKit Go.Shelf
attribute [local go_sem] Oper.semAt_some
end
section
open Go.RowKit Go.Shelf
attribute [local go_sem] Oper.semAt_some
theorem Own.cellAt{α:Type}{w:World}{base E size g n cap:Nat}{enc:α→List Value}{xs:List α}(h:Own w base E size enc (.slice (some ⟨g,0,none⟩) n cap) xs){i j:Nat}(hi:i<xs.length)(hj:j<size) :
  w.cell? ⟨g,i*size+j,none⟩=(enc xs[i])[j]?∧w.frozen? ⟨g,i*size+j,none⟩=false∧base≤g∧g<w.heap.size:=by
 obtain⟨a,cap',hv,hle,hm,hh⟩:=h
 obtain⟨rfl,_,_⟩:=Value.slice.inj hv
 rcases hh with⟨h0,_⟩ | ⟨g',cur,ha,hb,hg,hs,hx⟩
 ·cases h0
 ·obtain rfl:g=g':=by simpa using ha
  exact⟨by rw[hg.cell,hx i hi j hj],hg.free _,hb,hg.lt⟩
theorem Own.store1{α:Type}{w:World}{base E size g n cap:Nat}{enc:α→List Value}{xs:List α}(h:Own w base E size enc (.slice (some ⟨g,0,none⟩) n cap) xs){i j:Nat}(hi:i<xs.length)(hj:j<size)(y:α)(v:Value)
  (hy:∀ k,k<size→(enc y)[k]?=if k=j then some v else (enc xs[i])[k]?):Own (w.setCell ⟨g,i*size+j,none⟩ v) base E size enc (.slice (some ⟨g,0,none⟩) n cap) (xs.set i y):=by
 obtain⟨a,cap',hv,hle,hm,hh⟩:=h
 obtain⟨rfl,hn,rfl⟩:=Value.slice.inj hv
 rcases hh with⟨h0,_⟩ | ⟨g',cur,ha,hb,hg,hs,hx⟩
 ·cases h0
 ·obtain rfl:g=g':=by simpa using ha
  refine⟨_,cap,by rw[List.length_set,hn],by rwa[List.length_set],hm,.inr ⟨g,_,rfl,hb,hg.set _ _,by simpa using hs,fun i' hi' k hk=>?_⟩⟩
  rw[List.length_set] at hi'
  have hlt:i*size+j<cur.size:=by rw[hs];exact Nat.lt_of_lt_of_le (Nat.add_lt_add_left hj _) (by rw[←Nat.succ_mul];exact Nat.mul_le_mul_right _ (by omega))
  rw[Array.getElem?_setIfInBounds]
  by_cases e:i=i'
  ·subst e
   rw[List.getElem_set_self,hy k hk]
   by_cases e2:k=j
   ·subst e2;rw[if_pos rfl,if_pos hlt,if_pos rfl]
   ·rw[if_neg (by omega),if_neg e2,hx i hi k hk]
  ·rw[List.getElem_set_ne e,if_neg,hx i' hi' k hk]
   intro e2
   rcases Nat.lt_or_gt_of_ne e with h1 | h1
   ·have:=Nat.mul_le_mul_right size (show i+1≤i' by omega);rw[Nat.succ_mul] at this;omega
   ·have:=Nat.mul_le_mul_right size (show i'+1≤i by omega);rw[Nat.succ_mul] at this;omega
end
section
open Go.RowKit
end
section
open Go.RowKit
end
section
open Go.RowKit
def ends(s:ay)(j:Nat):Bool:=decide (j=255)||!mem s (j+1)
end
section
open Go.RowKit Go.Shelf
attribute [local go_sem] Oper.semAt_some
abbrev oU(x:Nat):Array Value:=#[.int .i64 x]
def ag0(X:Nat→Prop)(J:List Nat→World→Prop)(N m S:Nat)(W wr:World)(i:Value):Prop :=
 ∃ j pre,j≤m∧i=.int .i64 (j:Nat)∧pre++uS S j (m - j)=fM N S∧J pre wr∧aJ X W wr
def adR(X:Nat→Prop)(J:List Nat→World→Prop)(N m S j:Nat)(W wr:World)(v:Value):Prop :=
 ∃ u pre:_,u<18446744073709551616∧v=.int .u64 (u:Nat)∧pre++(jq j u++uS S (j+1) (m - j - 1))=fM N S∧J pre wr∧aJ X W wr
set_option maxRecDepth 100000 in
theorem N9(n l Bq p g N S:Nat)(X:Nat→Prop)(N8:¬ X 1)(hgX:¬ X g)(J Jx:List Nat→World→Prop)(hN:N≤1048576)
  (hY:∀ pre x W,J pre W→pre.length<(fM N S).length→YieldAt Fence.wide (n - 1) Tryz.prog l (oU x) W fun e W'=>(e=.returned (.bool true)∧J (pre++[x]) W'∧aJ X W W')∨(e=.returned (.bool false)∧Jx (pre++[x]) W'))
  (W:World) (hT:Tab W) (hq:Box W Bq #[.pointer (some ⟨p,0,none⟩)] 353) (hB:fB W p g N S) (h0:J [] W) :
  CallsIn Fence.wide n Tryz.prog 329 #[.func (.yield l) #[] #[],.pointer (some ⟨Bq,0,none⟩)] W fun e W'=>(∃ v,e=.returned v)∧((∃ ys,ys=fM N S∧J ys W')∨(∃ pre,pre <+: fM N S∧Jx pre W')):=by
 have c0:W.cell? ⟨Bq,0,none⟩=some (.pointer (some ⟨p,0,none⟩)):=hq.cell 0
 have x1:W.cell? ⟨p,1,none⟩=some (.slice (some ⟨g,0,none⟩) (bQ N) (bQ N)):=hB.box.cell 1
 have hwd:=hB.words
 have hel:=TD N (bQ N) S (by unfold bQ;omega) hB.lt
 have hm:bQ N≤16384:=by unfold bQ;omega
 generalize bQ N=m at *
 have HWD:=ah hwd;have HEL:=ah hel
 clear hwd hB hq hel
 refine callsIn_of_wp Tryz.func329 rfl trivial ?_ rfl
 simp only[Tryz.ntmps329,List.size_toArray,List.length_cons,List.length_nil,Nat.reduceAdd,Nat.reduceSub,Array.replicate_succ,Array.replicate_zero,List.push_toArray,List.append_toArray,List.nil_append,List.cons_append]
 gi_wp2
 gi_loopw [12] (fun i wr=>ag0 X J N m S W wr i) (fun i _=>m - (intOf i).toNat)
 case atStart=>exact⟨0,[],by omega,rfl,by rw[List.nil_append];exact HEL.out.symm,h0,aJ.refl _ _⟩
 case round =>
  obtain⟨j,pre,hj,rfl,he,ug,hkr⟩:=hrel
  by_cases hlt:j<m
  ·have hbx:=hkr.box hgX HWD.out
   have gw:wr.cell? ⟨g,j,none⟩=some (.int .u64 (dH S j:Nat)):=(hbx.cell _).trans (mX _ _ _ hlt)
   have hbl:=hbx.lt
   have hdj:decide ((j:Int)<(m:Int))=true:=decide_eq_true (by omega)
   rw[show m - j=(m - j - 1)+1 by omega,uS] at he
   have hu:=Ba S j
   generalize dH S j=u0 at *
   clear hbx
   gi_wp2
   gi_loopw [4] (fun v wr=>adR X J N m S j W wr v) (fun v _=>(intOf v).toNat)
   case atStart=>exact⟨_,pre,hu,rfl,he,ug,hkr⟩
   case round =>
    clear gw hbl
    obtain⟨u,pre,hu,rfl,he,ug,hkr⟩:=hrel
    by_cases hz:u=0
    ·subst hz
     rw[jq,ES,List.map_nil,List.nil_append] at he
     gi_wp2
     exact⟨⟨j+1,pre,hlt,by simp,by rw[show m - (j+1)=m - j - 1 by omega];exact he,ug,hkr⟩,by simp[intOf];omega⟩
    ·have hne:((u:Int) != 0)=true:=by simp;omega
     obtain⟨hls,hk,hdec⟩:=Ns u hz hu
     have hand:=N7 u hz hu
     have xK:jq j u=(64*j+Lib.ctz 64 u)::jq j (u &&& (u - 1)):=by rw[jq,hls];rfl
     have hl:pre.length<(fM N S).length:=by
      rw[←he,jq,hls];simp
     have Dc:=hY pre (64*j+Lib.ctz 64 u) wr ug hl
     rw[show oU (64*j+Lib.ctz 64 u)=#[.int .i64 ((j:Int)*64+(Lib.ctz 64 u:Nat))] by simp only[oU];rw[show((64*j+Lib.ctz 64 u:Nat):Int)=(j:Int)*64+(Lib.ctz 64 u:Nat) by omega]] at Dc
     obtain⟨fn,tmps,assign,body,hy,hR⟩:=Dc
     have HT:=ah (hT.EC N8 hkr)
     have TZ:=fun w hT=>adQ u hz hu w hT
     generalize Lib.ctz 64 u=k at *
     have hdd:∀ k:Nat,(Fence.wide.depth.isSome=true→1≤k):=fun k h=>by cases h
     gi_wp2_with (first | (refine⟨trivial,hdd _,?_⟩;gi_at_call 244;go_must (refine(callsIn_wide.2 (TZ _ HT.out)).mono ?_;rintro e w1 ⟨rfl,rfl⟩)) | (refine⟨hdd _,?_⟩;refine hR.mono ?_;clear hR;rintro e W2 (⟨rfl,hJ2,hk2⟩ | ⟨rfl,hx2⟩)))
     ·refine⟨⟨u &&& (u - 1),pre++[64*j+k],by omega,rfl,?_,hJ2,hkr.trans hk2⟩,by simp[intOf];omega⟩
      rw[←he,xK];simp
     ·refine bodyPost_ret (results_none rfl _ _ _) rfl ?_
      refine⟨⟨_,rfl⟩,.inr ⟨_,?_,hx2⟩⟩
      rw[←he,xK]
      exact⟨jq j (u &&& (u - 1))++uS S (j+1) (m - j - 1),by simp⟩
  ·obtain rfl:j=m:=by omega
   rw[Nat.sub_self,show uS S j 0=[] from rfl,List.append_nil] at he
   subst he
   gi_wp2
   go_end0
   exact⟨⟨_,rfl⟩,.inl ⟨_,rfl,ug⟩⟩
theorem JR(n Bq p g N S:Nat)(X:Nat→Prop)(w:World)(hN:N≤1048576)(N8:¬ X 1)(hgX:¬ X g)(hT:Tab w)(hq:Box w Bq #[.pointer (some ⟨p,0,none⟩)] 353)(hB:fB w p g N S) :
  SeqStopsK Fence.wide n Tryz.prog 329 #[.pointer (some ⟨Bq,0,none⟩)] oU (aJ X) (fun ys=>ys=fM N S) (fun pre=>pre <+: fM N S) (fM N S).length w:=fun l J Jx W hW _ _ hY h0 =>
 N9 n l Bq p g N S X N8 hgX J Jx hN (fun pre x W hj hl=>hY pre x W hj hl) W (hT.kept hW) (hq.kept hW) (hB.kept hW) h0
theorem QG(a:Option Addr)(w:World):Calls Tryz.prog 321 #[.pointer a] w fun e w'=>e=.returned (.func (.func 329) #[] #[.pointer (some ⟨w.heap.size,0,none⟩)])∧w'=w.alloc (.cells #[.pointer a] 353):=by
 go_enter Tryz.func321,Tryz.ntmps321
 go_wp2
 go_ret
 exact⟨rfl,rfl⟩
end
section
open Go.RowKit Go.Shelf
attribute [local go_sem] Oper.semAt_some
def adU(b:Nat)(w:World)(pre:List Nat)(W:World):Prop:=Box W (b+1) #[.int .i64 0] 3∧pre=[]∧Below b w W
def adV(b:Nat)(w:World)(c:Code)(pre:List Nat)(W:World):Prop:=c=.ret∧∃ x:Nat,pre=[x]∧Box W (b+1) #[.int .i64 (wrap64 x)] 3∧Below b w W
set_option maxRecDepth 100000 in
theorem TV(s:ay)(w:World)(hT:Tab w):Calls Tryz.prog 151 #[.agg (dX s)] w (bV w (.int .i64 (leastOf s))):=by
 have hle:=MF s
 have hlt:=fun x=>@YQ s x
 have hN:=acS s
 refine(callsIn_wide (n:=6)).1 ?_
 refine callsIn_of_wp_marks Tryz.func151 rfl trivial ?_ rfl
 simp only[Tryz.ntmps151,List.size_toArray,List.length_cons,List.length_nil,Nat.reduceAdd,Nat.reduceSub,Array.replicate_succ,Array.replicate_zero,List.push_toArray,List.append_toArray,List.nil_append,List.cons_append]
 gi_wp2_with (refine⟨trivial,?_⟩;gi_at_call 201;refine(callsIn_wide.2 (hN _)).mono ?_;rintro e w' ⟨rfl,rfl⟩)
 obtain⟨W0,hW0⟩:∃ W0,(((w.alloc (.cells (dX s) 149)).alloc (.cells #[.int .i64 0] 3)).alloc (.cells (dX s) 149))=W0:=⟨_,rfl⟩
 have hB0:Below w.heap.size w W0:=by rw[←hW0];go_grown
 have hsz0:W0.heap.size=w.heap.size+1+1+1:=by rw[←hW0];simp
 have hbt:Box W0 (w.heap.size+1+1) (dX s) 149:=by rw[←hW0];exact Box.new' (by simp) _ _
 have hn0:Box W0 (w.heap.size+1) #[.int .i64 0] 3:=by rw[←hW0];exact(Box.new' (by simp) _ _).alloc _
 rw[hW0]
 clear hW0
 have hpos:=hT.pos
 have hst:=TU 5 (w.heap.size+1+1) (fun b=>b=w.heap.size+1) s W0 (by omega) (hT.kept hB0) hbt
 refine wpIn_rangeFunc_ownF rfl (by decide) (gf:=243) (lb:=#[.pointer (some ⟨w.heap.size+1+1,0,none⟩)]) rfl trivial (enters_of Tryz.func243 (by kernel_rfl) rfl)
  hst (fun h k=>h.trans k) Ey (Below.refl _ _) (fun _=>rfl)
  (adU w.heap.size w) (adV w.heap.size w)
  (OwnFrom.and (gJ _ _ _ _) (OwnFrom.and (fun _ _ _ _ h _ _=>h) (ownFrom_below (Nat.le_refl _) (by omega))))
  (fun _=>fun pre W W' row ⟨h1,x,h2,h3,h4⟩ hg hr=>⟨h1,x,h2,gJ _ _ _ (fun _:Unit=>#[.int .i64 (wrap64 x)]) () W W' row h3 hg hr,ownFrom_below (β:=Unit) (Nat.le_refl _) (by omega) () W W' row h4 hg hr⟩) ⟨hn0,rfl,hB0⟩
  (fun x=>{ tmps:=#[.agg (dX s),.pointer (some ⟨w.heap.size,0,none⟩),.pointer (some ⟨w.heap.size+1,0,none⟩),.int .u8 (x:Nat),.agg (dX s),.func (.func 243) #[] #[.pointer (some ⟨w.heap.size+1+1,0,none⟩)],.int .u8 (x:Nat),undef,undef],defers:=[] }) ?assign ?body ?done ?stop
 case assign =>
  intro l x W K hK
  dsimp only[NZ]
  go_simp
  gi_wp2
  exact hK
 case body =>
  rintro l pre x W ⟨hb,rfl,hB⟩ hlt
  have c0:=hb.cell 0
  have f0:=hb.free 0
  gi_wp2
  exact⟨KeepsOthers.setCell _ _ _,rfl,x,rfl,hb.set 0 _,hB.setCell (by simp) _⟩
 case done =>
  rintro D ys W hD rfl ⟨hb,hys,hB⟩ hK
  have c0:=hb.cell 0
  have f0:=hb.free 0
  rw[hys] at hle
  gi_wp2
  have hK':=(KeepsOthers.setCell W ⟨w.heap.size+1,0,none⟩ (.int .i64 (-1))).same D _ hK rfl
  refine⟨by simp,.inl ⟨_,_,rfl,run_takeDeferred hK',?_⟩⟩
  have hc5:=(gJ W0.heap.size (w.heap.size+1) 3 (fun _:Unit=>#[.int .i64 (-1)]) () _ _ (some D) (hb.set 0 (.int .i64 (-1))) (grownBy_putObj' _ D (.deferred none)) (fun r e=>by cases e;exact⟨by omega,_,hK',rfl⟩)).cell 0
  refine⟨.int .i64 (-1),?_,rfl,(hB.setCell (p:=⟨w.heap.size+1,0,none⟩) (by simp) _).trans (belowK_b (w:=w) (Nat.le_refl _) _ D _ _ (by omega) hK' rfl rfl)⟩
  simp[results,Tryz.f151,go_sem,hc5]
 case stop =>
  rintro D c pre W hD hpre ⟨rfl,x,rfl,hb,hB⟩ hK
  obtain⟨r,hr⟩:=hpre
  have hx:=hlt x (by rw[←hr];simp)
  have hw:wrap64 (x:Int)=(x:Nat):=by unfold wrap64;omega
  rw[hw] at hb
  rw[←hr] at hle
  gi_wp2
  refine⟨by simp,.inl ⟨_,_,rfl,run_takeDeferred hK,?_⟩⟩
  have hc5:=(gJ W0.heap.size (w.heap.size+1) 3 (fun _:Unit=>#[.int .i64 (x:Nat)]) () _ _ (some D) hb (grownBy_putObj' _ D (.deferred none)) (fun r e=>by cases e;exact⟨by omega,_,hK,rfl⟩)).cell 0
  refine⟨.int .i64 (x:Nat),?_,by rw[hle];rfl,hB.trans (belowK_b (w:=w) (Nat.le_refl _) W D _ _ (by omega) hK rfl rfl)⟩
  simp[results,Tryz.f151,go_sem,hc5]
end
section
open Go.RowKit
theorem Zd:dQ Tryz.prog 35 5 (.int .u8 0) 1 1:=⟨Tryz.underlying35,info_parts (by kernel_rfl),rfl,by decide⟩
theorem Wp{R:Nat→Nat→Bool}(E:xH R)(k:Nat)(hk:k<(kF R 256).length)(hk2:k<(aK R 256).length):leastOf (kF R 256)[k]=((aK R 256)[k]:Nat):=by
 simp only[kF,List.getElem_map]
 exact VI E (Nat.le_refl _) (List.getElem_mem hk2)
theorem Oa(f:Nat→Nat)(w:World)(hT:Tab w) :
  Calls Tryz.prog 102 #[.agg (aT f)] w (gu w 5 1 gX (aK (bH (eu f)) 256)):=by
 have hE:=qY (eu f)
 have hS:=TL f
 have hl:=kS (bH (eu f)) 256
 have hat:=Wp hE
 have hlt:=fun x=>lN (bH (eu f)) 256 x
 have hm:=jZ (bH (eu f)) 256
 have hw:=oL (bH (eu f))
 rw[hw] at hl
 generalize kF (bH (eu f)) 256=L at *
 generalize aK (bH (eu f)) 256=xs at *
 obtain⟨m,hxm⟩:∃ m,xs.length=m:=⟨_,rfl⟩
 rw[hxm] at hl hm
 have HS:=ah hS
 have HL:=ah hl
 have HA:=ah hat
 have HX:=ah hlt
 have HM:=ah hxm
 have HT:=ah hT
 clear hE hS hl hat hlt hw hxm hT
 go_enter Tryz.func102,Tryz.ntmps102
 go_wp2_with (first | (refine wpList_load_row rfl 22 (.tmp 1) rfl _ rfl _ _ _ _ (Box.new _ _ _) Tryz.underlying22 rfl (bG _) ?_) | (go_at_call 150;go_must (refine(HS.out _).mono ?_;intro e w1 h1;obtain⟨a1,cap1,rfl,o1,hb1⟩:=h1;rw[HL.out] at o1 ⊢)))
 have hB1:Below w.heap.size w w1:=(aj w _).trans (hb1.mono (by simp))
 have hT1:=HT.out.kept hB1
 have hs1:=o1.slice zU
 obtain⟨b,o,hlen,hcap,hcap',ha,hbl,hcell⟩:=ak.sets hs1
 have HC:=ah hcell
 have HA1:=ah ha
 have HT1:=ah hT1
 have hsz:=hB1.size
 clear hcell ha hlen hs1 o1 hb1 hT1 hbl
 go_loopw [3,9] (fun v i wr=>∃ (k:Nat) (a:Option Addr) (cap:Nat),k≤m∧i=.int .i64 k∧v=.slice a k cap∧Own wr w1.heap.size 5 1 gX (.slice a k cap) (xs.take k)∧Below w1.heap.size w1 wr) (fun _ i _=>m - (intOf i).toNat)
 case atStart=>exact⟨0,none,0,Nat.zero_le _,rfl,rfl,Own.nil _ _ _ _ _,Below.refl _ _⟩
 case round =>
  obtain⟨k,a,cap,hk,rfl,rfl,hown,hB⟩:=hrel
  by_cases hlt:k<m
  ·have hk2:k<L.length:=by rw[HL.out];exact hlt
   have hk3:k<xs.length:=by rw[HM.out];exact hlt
   have hl1:=HA.out k hk2 hk3
   have hx:=HX.out _ (List.getElem_mem hk3)
   obtain rfl:=HA1.out k hk2
   obtain⟨c0,c1,c2,c3⟩:=HC.out k hk2 wr hB
   have htk:xs.take (k+1)=xs.take k++[xs[k]]:=List.take_succ_eq_append_getElem hk3
   have hln:(xs.take k).length=k:=by rw[List.length_take];omega
   have hle:=fun w hT=>TV L[k] w hT
   rw[hl1] at hle
   generalize xs[k]=x at *
   generalize xs.take k=ys at *
   generalize L[k]=s at *
   have RG:=ah hle
   have wF:=ah htk
   have ru:=ah hln
   have amW:ys.length≤256:=by omega
   have hu8:IntKind.u8.wrap (x:Int)=(x:Int):=nK x hx
   clear hl1 htk hln hle
   have hk0:(0:Int)≤(k:Int):=by omega
   have hkm:(k:Int)<(m:Int):=by omega
   go_wp2_with (first | (go_at_call 151;go_must (refine(RG.out _ (HT1.out.kept (hB.alloc hB.size _))).mono ?_;rintro e w5 ⟨rfl,hb5⟩;have hown5:=(hown.alloc (.cells (dX s) 149)).kept hb5)) | (at_builtin;go_must (refine fJ rfl _ _ 35 rfl Zd JF rfl (hown5.alloc _) ⟨w5.heap.size,0,none⟩ 1 x rfl (cZ w5 [.int .u8 (x:Nat)] _) (by simp[maxLen];omega) (by omega) (by have:=hb5.size;have:=hB.size;simp at *;omega) ?_;intro a' cap' W' hown' hg)))
   rw[ru.out] at hown' ⊢
   go_roundw
   case rel =>
    refine⟨k+1,a',cap',hlt,by go_num,rfl,by rw[wF.out];exact hown',?_⟩
    have h6:=(hB.alloc hB.size (.cells (dX s) 149)).trans (hb5.mono (by have:=hB.size;simp;omega))
    have h7:=h6.alloc h6.size (.cells #[.int .u8 (x:Nat)] 5)
    exact below_grown h7 (hown5.alloc _) hg (Nat.le_refl _) h7.size
   case measure=>simp[intOf];omega
  ·obtain rfl:k=m:=by omega
   have htk:xs.take k=xs:=List.take_of_length_le (by rw[HM.out];omega)
   go_wp2
   go_ret
   rw[htk] at hown
   exact⟨a,cap,by rw[HM.out];rfl,by rw[HM.out];exact hown.mono hsz,hB1.trans (hB.mono hsz)⟩
end
section
open Go.RowKit Go.Shelf
attribute [local go_sem] Oper.semAt_some
mutual
def iO:Vt→List Vt
 | .mk k s a cap kids lo hi=>.mk k s a cap kids lo hi::fO kids
def fO:List Vt→List Vt
 | []=>[]
 | a::l=>iO a++fO l
end
theorem Df(l m:List Vt):fO (l++m)=fO l++fO m:=by
 induction l with
 | nil=>simp[fO]
 | cons a l ih=>simp[fO,ih]
theorem TW(l:List Vt)(j:Nat)(h:j<l.length):fO (l.take (j+1))=fO (l.take j)++iO l[j]:=by
 rw[List.take_succ_eq_append_getElem h,Df];simp[fO]
theorem QH(l:List Vt)(j:Nat)(h:j<l.length):fO l=fO (l.take j)++(iO l[j]++fO (l.drop (j+1))):=by
 have:l=l.take j++(l[j]::l.drop (j+1)):=by simp
 have e:=congrArg fO this
 rw[Df] at e
 simpa [fO] using e
theorem Ze:∀ V:Vt,(iO V).length=sizeT V.tr:=by
 refine Vt.ind fun k s a cap kids lo hi ih=>?_
 rw[Vt.jd]
 have key:∀ l:List Vt,(∀ i (h:i<l.length),(iO l[i]).length=sizeT (Vt.tr l[i]))→(fO l).length=nC (l.map Vt.tr):=by
  intro l
  induction l with
  | nil=>intro _;rfl
  | cons a l ihl =>
   intro h
   have h0:=h 0 (by simp)
   have h1:=ihl fun i hi=>h (i+1) (Nat.succ_lt_succ hi)
   simp only[List.getElem_cons_zero] at h0
   simp[fO,nC,h0,h1]
 simp[iO,sizeT,key kids ih];omega
theorem Lies.EC{X:Nat→Prop}{w w':World}{V:Vt}(h:Lies w V)(ho:On (fun b=>¬ X b) V)(hk:aJ X w w'):Lies w' V:=by
 induction h with
 | mk k s a cap kids lo hi h1 h2 h3 hs _ ih =>
  cases ho with
  | mk _ _ _ _ _ _ _ g1 g2=>exact .mk k s a cap kids lo hi h1 h2 h3 (hk.slice hs g1) fun i hi=>ih i hi (g2 i hi)
theorem On.open{S:Nat→Prop}{k:Int}{s:ay}{a:Option Addr}{cap:Nat}{kids:List Vt}{lo hi:Int}(h:On S (.mk k s a cap kids lo hi)):(0<kids.length→∀ ad,a=some ad→S ad.block)∧∀ i (h:i<kids.length),On S kids[i]:=by
 cases h with
 | mk _ _ _ _ _ _ _ g1 g2=>exact⟨g1,g2⟩
abbrev MV(x:Vt):Array Value:=#[.agg x.cells.toArray]
def Gp(X:Nat→Prop)(J Jx:List Vt→World→Prop)(pre q:List Vt)(W:World)(e:Ending)(W':World):Prop :=
 (e=.returned (.bool true)∧J (pre++q) W'∧aJ X W W')∨(e=.returned (.bool false)∧∃ r,r <+: q∧Jx (pre++r) W')
def acT(X:Nat→Prop)(J:List Vt→World→Prop)(kids:List Vt)(pre:List Vt)(W wr:World)(i:Value):Prop :=
 ∃ j:Nat,j≤kids.length∧i=.int .i64 j∧J (pre++fO (kids.take j)) wr∧aJ X W wr
set_option maxRecDepth 100000 in
theorem JU(F:Fence)(hd:F.depth=none)(hF:F.fn 226)(hro:F.round=none)(l N Bx:Nat)(X:Nat→Prop)(hX:∀ b,X b→b<Bx)(J Jx:List Vt→World→Prop)(hJ:AbidesFrom Bx J)
  (hY:∀ m pre x W,J pre W→pre.length<N→YieldAt F m Tryz.prog l (MV x) W fun e W'=>(e=.returned (.bool true)∧J (pre++[x]) W'∧aJ X W W')∨(e=.returned (.bool false)∧Jx (pre++[x]) W')) :
  ∀ (V:Vt) (n:Nat) (pre:List Vt) (W:World),Lies W V→On (fun b=>¬ X b) V→Bx≤W.heap.size→J pre W→pre.length+(iO V).length≤N →
   CallsIn F n Tryz.prog 226 #[.agg V.cells.toArray,.func (.yield l) #[] #[]] W (Gp X J Jx pre (iO V) W):=by
 refine Vt.ind fun k s a cap kids lo hi ih n pre W hL hO hB hJ0 hN=>?_
 have hdd:∀ k:Nat,(F.depth.isSome=true→1≤k):=fun k h=>by rw[hd] at h;cases h
 have hb1:=(Below.refl W.heap.size W).alloc (Nat.le_refl _) (.cells (aA k s a kids.length cap lo hi).toArray 151)
 have hJ1:=C9 hJ hJ0 hb1
 have hbx:=Box.new W (aA k s a kids.length cap lo hi).toArray 151
 have hk1:aJ X W (W.alloc (.cells (aA k s a kids.length cap lo hi).toArray 151)):=aJ.below hb1
 have hNX:¬ X W.heap.size:=fun h=>by have:=hX _ h;omega
 simp only[iO,List.length_cons] at hN
 have Dc:=hY (n - 1) pre (.mk k s a cap kids lo hi) _ hJ1 (by omega)
 change YieldAt F (n - 1) Tryz.prog l #[.agg (aA k s a kids.length cap lo hi).toArray] _ _ at Dc
 obtain⟨fn,tmps,assign,body,hy,hR⟩:=Dc
 obtain⟨_,_,_,sA,lA⟩:=hL.open
 obtain⟨oA,TY⟩:=hO.open
 have HY:=ah hy
 change CallsIn _ _ _ _ #[.agg (aA k s a kids.length cap lo hi).toArray,_] _ _
 refine callsIn_of_wp Tryz.func226 rfl hF ?_ hro
 simp only[Tryz.ntmps226,List.size_toArray,List.length_cons,List.length_nil,Nat.reduceAdd,Nat.reduceSub,Array.replicate_succ,Array.replicate_zero,List.push_toArray,List.append_toArray,List.nil_append,List.cons_append]
 gi_wp2_with ((try refine⟨hdd _,?_⟩);refine hR.mono ?_;clear hR)
 rintro e W2 (⟨rfl,hJ2,hk2⟩ | ⟨rfl,hx2⟩)
 ·have hk3:=hk1.trans hk2
  have hb2:=hk2.box hNX hbx
  obtain⟨p0,p1,p2,p3,p4,p5,p6,p7⟩:=hb2.node
  have hB2:Bx≤W2.heap.size:=Nat.le_trans hB hk3.size
  have s2:=hk3.slice sA oA
  have HL:=ah fun i (h:i<kids.length)=>(lA i h).EC (TY i h) hk3
  have HI:=ah ih
  have HO:=ah TY
  have HA:=ah oA
  have hfin:∀ e W',((e=.returned (.bool true)∧J (pre++[Vt.mk k s a cap kids lo hi]++fO kids) W'∧aJ X W2 W')∨(e=.returned (.bool false)∧∃ r,r <+: fO kids∧Jx (pre++[Vt.mk k s a cap kids lo hi]++r) W'))→Gp X J Jx pre (iO (.mk k s a cap kids lo hi)) W e W':=fun e W' h=>by
   rcases h with⟨h1,h2,h3⟩ | ⟨h1,r,h2,h3⟩
   ·exact .inl ⟨h1,by simpa [iO] using h2,hk3.trans h3⟩
   ·exact .inr ⟨h1,Vt.mk k s a cap kids lo hi::r,by simpa [iO] using h2,by simpa using h3⟩
  have HF:=ah hfin
  have hlen:(pre++[Vt.mk k s a cap kids lo hi]).length+(fO kids).length≤N:=by simp only[List.length_append,List.length_singleton];omega
  clear hbx hb2 sA lA ih TY hy HY hk1 hk2 hb1 hJ1 hO hL oA hfin
  generalize hp1:pre++[Vt.mk k s a cap kids lo hi]=Zf at *
  generalize hq1:iO (Vt.mk k s a cap kids lo hi)=q1 at *
  have HP:=ah hp1
  have HQ:=ah hq1
  clear hp1 hq1
  gi_wp2
  gi_loopw [14] (fun i wr=>acT X J kids Zf W2 wr i) (fun i _=>kids.length - (intOf i).toNat)
  case atStart=>exact⟨0,Nat.zero_le _,rfl,by simpa [fO] using hJ2,aJ.refl _ _⟩
  case round =>
   obtain⟨j,hj,rfl,ug,hkr⟩:=hrel
   by_cases hlt:j<kids.length
   ·obtain⟨b,o,c1,c2,c3,_,c5⟩:=(hkr.slice s2 HA.out).kids
    clear s2
    obtain rfl:=c3 j hlt
    have e1:=c5 j hlt wr (Below.refl _ _)
    have hb3:=(Below.refl wr.heap.size wr).alloc (Nat.le_refl _) (.cells kids[j].cells.toArray 151)
    have hJ3:=C9 hJ ug hb3
    have hk4:aJ X W2 (wr.alloc (.cells kids[j].cells.toArray 151)):=hkr.trans (aJ.below hb3)
    have hps:=QH kids j hlt
    have hpt:=TW kids j hlt
    have hNj:(Zf++fO (kids.take j)).length+(iO kids[j]).length≤N:=by
     have:=congrArg List.length hps
     simp only[List.length_append] at this ⊢
     omega
    have i1:=HI.out j hlt (n - 1) (Zf++fO (kids.take j)) _ ((HL.out j hlt).EC (HO.out j hlt) hk4) (HO.out j hlt) (by have:=hk4.size;omega) hJ3 hNj
    have HS:=ah hps
    have HT:=ah hpt
    clear hps hpt c5 c3
    generalize kids[j]=V at *
    obtain⟨k1,s1,a1,yK,wG,lo1,hi1⟩:=V
    obtain⟨x0,x1,x2,x3,x4,x5,x6,x7⟩:=oO e1
    change CallsIn _ _ _ _ #[.agg (aA k1 s1 a1 wG.length yK lo1 hi1).toArray,_] (wr.alloc (.cells (aA k1 s1 a1 wG.length yK lo1 hi1).toArray 151)) _ at i1
    have I1:=ah i1
    clear e1 i1 hJ3 hb3
    gi_wp2_with ((try refine⟨hdd _,?_⟩);gi_at_call 226;refine I1.out.mono ?_;clear I1;rintro e W3 (⟨rfl,VZ,hk5⟩ | ⟨rfl,r,hr,hx3⟩))
    ·go_roundw
     case rel=>exact⟨j+1,hlt,by go_num,by rw[HT.out,←List.append_assoc];exact VZ,hk4.trans hk5⟩
     case measure=>simp[intOf];omega
    ·go_ret
     refine HF.out _ _ (.inr ⟨rfl,fO (kids.take j)++r,?_,by rw[←List.append_assoc];exact hx3⟩)
     rw[HS.out]
     exact List.prefix_append_right_inj _ |>.2 (hr.trans (List.prefix_append _ _))
   ·obtain rfl:j=kids.length:=by omega
    rw[List.take_length] at ug
    gi_wp2
    go_ret
    exact HF.out _ _ (.inl ⟨rfl,ug,hkr⟩)
 ·gi_wp2
  go_ret
  exact .inr ⟨rfl,[Vt.mk k s a cap kids lo hi],⟨fO kids,by simp[iO]⟩,hx2⟩
theorem Wq(F:Fence)(hd:F.depth=none)(n:Nat)(hF:F.fn 225)(hF2:F.fn 226)(hro:F.round=none)(l Bt Bx:Nat)(X:Nat→Prop)(hX:∀ b,X b→b<Bx)(J Jx:List Vt→World→Prop)(hJ:AbidesFrom Bx J)(V:Vt)
  (hY:∀ pre x W,J pre W→pre.length<(iO V).length→YieldAt F (n - 1) Tryz.prog l (MV x) W fun e W'=>(e=.returned (.bool true)∧J (pre++[x]) W'∧aJ X W W')∨(e=.returned (.bool false)∧Jx (pre++[x]) W'))
  (W:World) (hB:Bx≤W.heap.size) (hBt:Box W Bt V.cells.toArray 151) (hL:Lies W V) (hO:On (fun b=>¬ X b) V) (h0:J [] W) :
  CallsIn F n Tryz.prog 225 #[.func (.yield l) #[] #[],.pointer (some ⟨Bt,0,none⟩)] W fun e W'=>(∃ v,e=.returned v)∧((∃ ys,ys=iO V∧J ys W')∨(∃ pre,pre <+: iO V∧Jx pre W')):=by
 have hdd:∀ k:Nat,(F.depth.isSome=true→1≤k):=fun k h=>by rw[hd] at h;cases h
 have hp:=JU F hd hF2 hro l (iO V).length Bx X hX J Jx hJ (fun m pre x W hj hl=>Wj hd m (hY pre x W hj hl)) V (n - 1) [] W hL hO hB h0 (by simp)
 have hq:∀ e W',Gp X J Jx [] (iO V) W e W'→(e=.returned (.bool true)∧J (iO V) W')∨(e=.returned (.bool false)∧∃ r,r <+: iO V∧Jx r W'):=fun e W' h=>by
  rcases h with⟨h1,h2,_⟩ | ⟨h1,r,h2,h3⟩
  ·exact .inl ⟨h1,by simpa using h2⟩
  ·exact .inr ⟨h1,r,h2,by simpa using h3⟩
 have hp2:=hp.mono hq
 clear hp hq hY hL hO h0
 generalize iO V=q at *
 obtain⟨k,s,a,cap,kids,lo,hi⟩:=V
 obtain⟨p0,p1,p2,p3,p4,p5,p6,p7⟩:=Box.node hBt
 change CallsIn _ _ _ _ #[.agg (aA k s a kids.length cap lo hi).toArray,_] _ _ at hp2
 refine callsIn_of_wp Tryz.func225 rfl hF ?_ hro
 simp only[Tryz.ntmps225,List.size_toArray,List.length_cons,List.length_nil,Nat.reduceAdd,Nat.reduceSub,Array.replicate_succ,Array.replicate_zero,List.push_toArray,List.append_toArray,List.nil_append,List.cons_append]
 gi_wp2_with ((try refine⟨hdd _,?_⟩);gi_at_call 226;refine hp2.mono ?_;clear hp2;rintro e W1 (⟨rfl,hJ1⟩ | ⟨rfl,r,hr,hx⟩))
 ·go_end0
  exact⟨⟨_,rfl⟩,.inl ⟨_,rfl,hJ1⟩⟩
 ·go_end0
  exact⟨⟨_,rfl⟩,.inr ⟨r,hr,hx⟩⟩
theorem QI(F:Fence)(hd:F.depth=none)(n:Nat)(hF:F.fn 225)(hF2:F.fn 226)(hro:F.round=none)(Bt:Nat)(X:Nat→Prop)(V:Vt)(w:World)(hX:∀ b,X b→b<w.heap.size)
  (hBt:Box w Bt V.cells.toArray 151) (hL:Lies w V) (hO:On (fun b=>¬ X b) V) :
  SeqStopsK F n Tryz.prog 225 #[.pointer (some ⟨Bt,0,none⟩)] MV (aJ X) (fun ys=>ys=iO V) (fun pre=>pre <+: iO V) (iO V).length w:=fun l J Jx W hW hJ _ hY h0 =>
 Wq F hd n hF hF2 hro l Bt W.heap.size X (fun b hb=>Nat.lt_of_lt_of_le (hX b hb) hW.size) J Jx hJ V hY W (Nat.le_refl _) (hBt.kept hW) (hL.kept hW) hO h0
theorem Zg(V:Vt)(w:World):Calls Tryz.prog 179 #[.agg V.cells.toArray] w fun e w'=>e=.returned (.func (.func 225) #[] #[.pointer (some ⟨w.heap.size,0,none⟩)])∧w'=w.alloc (.cells V.cells.toArray 151):=by
 obtain⟨k,s,a,cap,kids,lo,hi⟩:=V
 change Calls _ _ #[.agg (aA k s a kids.length cap lo hi).toArray] _ _
 go_enter Tryz.func179,Tryz.ntmps179
 go_wp2
 go_ret
 exact⟨rfl,rfl⟩
end
end Go.Proofs.YtbemonecmmnlcaaGreatDoor
