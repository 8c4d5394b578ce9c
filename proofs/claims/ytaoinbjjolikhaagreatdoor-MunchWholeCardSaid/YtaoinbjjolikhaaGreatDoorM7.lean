/- The texts of B7, in few letters (mini.py). -/
import Derived.Test.YtaoinbjjolikhaaGreatDoorM6
import Derived.Test.YtaoinbjjolikhaaGreatDoorM5
set_option linter.unusedVariables false
set_option linter.unusedSimpArgs false
set_option maxHeartbeats 2000000
set_option maxRecDepth 20000
namespace Go.Proofs.YtaoinbjjolikhaaGreatDoor
section
open Go.RowKit
structure QD(X X':Nat→Prop)(A B:World)(row:Option Nat):Prop where
 grown:A.grownBy B row
 own:∀ r,row=some r→X r
 new:∀ b,X' b→X b∨(A.heap.size≤b∧b<B.heap.size)
def RH{α:Type}(P:Program)(gf:Nat)(lb:Array Value)(encs:α→Array Value)(Z:Nat→Prop)(S:List α→Prop)(N:Nat)(w:World):Prop :=
 ∀ (l:Nat) (J:List α→(Nat→Prop)→World→Prop) (W:World),Below w.heap.size w W →
  (∀ s X X' A B row,J s X A→QD X X' A B row→J s X' B) →
  (∀ s X A,J s X A→∀ b,X b→b<A.heap.size) →
  (∀ pre x X W1,J pre X W1→pre.length<N→YieldAt Fence.wide 0 P l (encs x) W1 fun e W'=>e=.returned (.bool true)∧J (pre++[x]) X W'∧W1.heap.size≤W'.heap.size∧∀ b,(X b∨Z b)→W'.heap[b]?=W1.heap[b]?) →
  J [] (fun _=>False) W →
  CallsIn Fence.wide 0 P gf (#[.func (.yield l) #[] #[]]++lb) W fun e W'=>(∃ v,e=.returned v)∧∃ xs X,S xs∧J xs X W'
def V8{α:Type}(B0:Nat)(I:List α→(Nat→Prop)→World→Prop):Prop :=
 ∀ s X X' A B row,I s X A→A.grownBy B row→(∀ r,row=some r→X r∨(B0≤r∧∃ o:Obj,A.heap[r]?=some o∧o.isCells=false))→(∀ b,X' b→X b∨(A.heap.size≤b∧b<B.heap.size))→I s X' B
def ZB{α:Type}(I:List α→(Nat→Prop)→World→Prop)(Z X:Nat→Prop)(xs:List α)(W:World):Exit→Act→World→Prop
 | .normal,_,W'=>KeepsOthers W W'∧(∀ b,(X b∨Z b)→W'.heap[b]?=W.heap[b]?)∧I xs X W'
 | _,_,_=>False
theorem XF{α:Type}{P:Program}{g:Operand}{ps:Array Tmp}{assign body:Code}{Q:Exit→Act→World→Prop}{a:Act}{w:World}{gf:Nat}{lb:Array Value}
  (hg:a.eval g=.func (.func gf) #[] lb) (eg:∀ args w,(callFunc gf args).run P w=.ok (.enter gf args) w)
  {encs:α→Array Value} {Z:Nat→Prop} {S:List α→Prop} {N:Nat} {w0:World} (hseq:RH P gf lb encs Z S N w0) (hb0:Below w0.heap.size w0 w) (hZ:∀ b,Z b→b<w.heap.size) (hps:∀ x,(encs x).size=ps.size)
  (I:List α→(Nat→Prop)→World→Prop) (hI:V8 w.heap.size I) (h0:I [] (fun _=>False) w) (a1:α→Act)
  (hassign:∀ (l:Nat) (x:α) (W:World) (K:Act→World→Prop),K (a1 x) W →
   assign.wpIn (Fence.wide.inRound l) 0 P (Exit.then K (fun _ _ _=>False)) { tmps:=(ps.zip (encs x)).foldl (fun t (p,v)=>t.setIfInBounds p v) a.tmps,defers:=[] } W)
  (hbody:∀ (l:Nat) (pre:List α) (x:α) (X:Nat→Prop) (W:World),I pre X W→(∀ b,X b→w.heap.size≤b∧b<W.heap.size)→w.heap.size≤W.heap.size→pre.length<N→body.wpIn (Fence.wide.inRound l) 0 P (ZB I Z X (pre++[x]) W) (a1 x) W)
  (hdone:∀ (D:Nat) (xs:List α) (X:Nat→Prop) (W:World),w.heap.size≤D→S xs→I xs X W→W.heap[D]?=some (.deferred (some []))→Q .normal { a with defers:={ target:=.collected D,args:=#[] }::a.defers } W) :
  (Code.rangeFunc g ps assign body).wpIn Fence.wide 0 P Q a w:=by
 refine wpIn_rangeFunc ?_
 intro fn hfn
 obtain⟨rec,hrec⟩:∃ rec:LoopState→Option Code→Loop,rec=fun st pe=>{ state:=st,pending:=pe,fn,tmps:=a.tmps,params:=ps,assign,body,defers:=w.heap.size }:=⟨_,rfl⟩
 obtain⟨W1,hW1⟩:∃ W1,(w.alloc (.deferred (some []))).alloc (.loop (rec .ready none))=W1:=⟨_,rfl⟩
 have hL1:W1.heap[w.heap.size+1]?=some (.loop (rec .ready none)):=by
  rw[←hW1];have:=World.alloc_heap_new (w.alloc (.deferred (some []))) (.loop (rec .ready none));rwa[World.size_alloc] at this
 have hK1:W1.heap[w.heap.size]?=some (.deferred (some [])):=by
  rw[←hW1];exact(Below.heap_alloc _ _ _ (by simp)).trans (World.alloc_heap_new w _)
 have hI1:I [] (fun _=>False) W1:=by
  rw[←hW1]
  exact hI _ _ _ _ _ none (hI _ _ _ _ _ none h0 (World.grownBy_alloc w _ none) (fun _ e=>by cases e) (fun _ e=>.inl e)) (World.grownBy_alloc _ _ none) (fun _ e=>by cases e) (fun _ e=>.inl e)
 have hs1:W1.heap.size=w.heap.size+2:=by rw[←hW1];simp
 have hb1:Below w0.heap.size w0 W1:=by
  rw[←hW1];exact hb0.trans ((((Below.refl _ w).alloc (Nat.le_refl _) _).alloc (by simp) _).mono hb0.size)
 refine⟨w.heap.size+1,[{ target:=.collected w.heap.size,args:=#[] }],W1,{ target:=.fn (.func gf) lb,args:=#[.func (.yield (w.heap.size+1)) #[] #[]] },W1,gf,
  #[.func (.yield (w.heap.size+1)) #[] #[]]++lb,W1,?_,?_,?_,?_,(fun h=>by cases h),?_⟩
 ·rw[←hW1,hrec];exact run_enterLoop_outer _ _ _ _ _
 ·simp only[resolve,hg]
  simp[go_sem]
 ·intro f' hf';exact trivial
 ·simp[invoke,go_sem,eg]
 ·refine(hseq (w.heap.size+1)
   (fun pre X W=>I pre X W∧(∀ b,X b→w.heap.size+2≤b∧b<W.heap.size)∧w.heap.size+2≤W.heap.size∧W.heap[w.heap.size+1]?=some (.loop (rec .ready none))∧W.heap[w.heap.size]?=some (.deferred (some [])))
   W1 hb1 ?_ (fun s X A h b hb=>(h.2.1 b hb).2) ?_ ⟨hI1,fun _ h=>h.elim,by omega,hL1,hK1⟩).mono ?_
  ·rintro s X X' A B row ⟨hi,hx,hz,hl,hk⟩ ht
   have hsz:=ht.grown.size
   have hne:∀ k,k<w.heap.size+2→B.heap[k]?=A.heap[k]?:=fun k hk=>ht.grown.block k (by omega) (fun e=>by have:=hx k (ht.own k e.symm);omega)
   refine⟨hI s X X' A B row hi ht.grown (fun r e=>.inl (ht.own r e)) ht.new,fun b hb=>?_,by omega,(hne _ (by omega)).trans hl,(hne _ (by omega)).trans hk⟩
   rcases ht.new b hb with h | ⟨h1,h2⟩
   ·have:=hx b h;exact⟨this.1,by omega⟩
   ·exact⟨by omega,h2⟩
  ·rintro pre x X W ⟨hi,hx,hz,hl,hk⟩ hlen
   have hlt:w.heap.size+1<W.heap.size:=(Array.getElem?_eq_some_iff.1 hl).1
   have hy:=run_yield (P:=P) (args:=encs x) hl (by rw[hrec];exact hps x)
   rw[hrec] at hy
   refine⟨fn,_,assign,body,hy,roundIn_of_wpIn hfn (hassign _ x W _ ⟨_,run_beginRound hl (by rw[hrec]),?_⟩)⟩
   obtain⟨W2,hW2⟩:∃ W2,W.putObj (w.heap.size+1) (.loop { rec .ready none with state:=.busy })=W2:=⟨_,rfl⟩
   have hl2:W2.heap[w.heap.size+1]?=some (.loop { rec .ready none with state:=.busy }):=by rw[←hW2];exact World.putObj_heap_same hlt
   have hk2:W2.heap[w.heap.size]?=some (.deferred (some [])):=by rw[←hW2];exact(World.putObj_heap_other (by omega)).trans hk
   have hz2:W2.heap.size=W.heap.size:=by rw[←hW2];simp
   have ho2:∀ b,b≠w.heap.size+1→W2.heap[b]?=W.heap[b]?:=fun b hb=>by rw[←hW2];exact World.putObj_heap_other hb
   have hi2:I pre X W2:=by
    rw[←hW2]
    exact hI _ _ _ _ _ (some _) hi (grownBy_putObj' W _ _) (fun r e=>by cases e;exact .inr ⟨by omega,_,hl,rfl⟩) (fun b hb=>.inl hb)
   refine wpIn_mono (hW2▸hbody _ pre x X W2 hi2 (fun b hb=>by have:=hx b hb;omega) (by omega) hlen) ?_
   rintro e a3 W3 hp
   cases e with
   | normal =>
    obtain⟨hk3,hs3,hi3⟩:=hp
    have hl3:=hk3.same _ _ (hW2▸hl2) rfl
    have hk4:=hk3.same _ _ (hW2▸hk2) rfl
    have hsz3:=hk3.size
    have hend:=run_endRound (P:=P) none hl3
    have hsz2:=hz2
    rw[←hW2] at hsz2
    refine⟨_,_,hend,rfl,⟨?_,?_,?_,?_,?_⟩,?_,?_⟩
    ·exact hI _ _ _ _ _ (some _) hi3 (grownBy_putObj' W3 _ _) (fun r e=>by cases e;exact .inr ⟨by omega,_,hl3,rfl⟩) (fun b hb=>.inl hb)
    ·intro b hb
     rw[World.putObj_size]
     have:=hx b hb
     exact⟨this.1,by omega⟩
    ·rw[World.putObj_size];omega
    ·rw[World.putObj_heap_same (Array.getElem?_eq_some_iff.1 hl3).1,hrec];rfl
    ·exact(World.putObj_heap_other (by omega)).trans hk4
    ·rw[World.putObj_size];omega
    ·intro b hb
     have hne:b≠w.heap.size+1:=by
      rcases hb with h | h
      ·have:=hx b h;omega
      ·have:=hZ b h;omega
     rw[World.putObj_heap_other hne,hs3 b hb,World.putObj_heap_other hne]
   | _=>exact hp.elim
  ·rintro e W2 ⟨⟨v,rfl⟩,xs,X,hS,hi,hx,hz,hl,hk⟩
   refine⟨none,_,by have:=run_endLoop (P:=P) hl (by rw[hrec];simp);rw[hrec] at this;exact this,hdone _ xs X _ (Nat.le_refl _) hS ?_ ((World.putObj_heap_other (by omega)).trans hk)⟩
   exact hI _ _ _ _ _ (some _) hi (grownBy_putObj' W2 _ _) (fun r e=>by cases e;exact .inr ⟨by omega,_,hl,rfl⟩) (fun b hb=>.inl hb)
end
section
open Go.RowKit
structure lY{α:Type}(w:World)(base E size:Nat)(enc:α→List Value)(grp:Nat→List α)(vs:Nat→Value):Prop where
 own:∀ s,Own w base E size enc (vs s) (grp s)
 oQ:∀ s t,s≠t→∀ g,(vs s).ownBlock=some g→(vs t).ownBlock≠some g
def kD{β:Type}(f:Nat→β)(s:Nat)(v:β)(t:Nat):β:=if t=s then v else f t
theorem lK{β:Type}(f:Nat→β)(s:Nat)(v:β):kD f s v s=v:=if_pos rfl
theorem kK{β:Type}(f:Nat→β){s t:Nat}(v:β)(h:t≠s):kD f s v t=f t:=if_neg h
section
variable {α:Type} {w w' w'':World} {base E size:Nat} {enc:α→List Value} {grp:Nat→List α} {vs:Nat→Value}
theorem lY.new(w:World)(base E size:Nat)(enc:α→List Value):lY w base E size enc (fun _=>[]) (fun _=>.slice none 0 0) :=
 ⟨fun _=>Own.nil _ _ _ _ _,fun _ _ _ g hg=>by cases hg⟩
theorem lY.same(h:lY w base E size enc grp vs)(hb:∀ b,base≤b→b<w.heap.size→w'.heap[b]?=w.heap[b]?):lY w' base E size enc grp vs :=
 ⟨fun s=>(h.own s).same fun g hg=>hb g ((h.own s).blk hg).1 ((h.own s).blk hg).2,h.oQ⟩
theorem lY.kept(h:lY w base E size enc grp vs)(hb:Below w.heap.size w w'):lY w' base E size enc grp vs:=h.same fun b _ hl=>hb.block b hl
theorem lY.put(h:lY w base E size enc grp vs)(s:Nat)(y:α){v':Value}(ho:Own w' base E size enc v' (grp s++[y]))(hg:w.grownBy w' (vs s).ownBlock)(hf:v'.ownBlock=(vs s).ownBlock∨v'.ownBlock=some w.heap.size) :
  lY w' base E size enc (kD grp s (grp s++[y])) (kD vs s v'):=by
 have fresh:∀ t,t≠s→∀ g,v'.ownBlock=some g→(vs t).ownBlock≠some g:=fun t ht g h1 h2=>by
  rcases hf with e | e
  ·exact h.oQ t s ht g h2 (e▸h1)
  ·rw[e] at h1
   cases h1
   have:=((h.own t).blk h2).2
   omega
 refine⟨fun t=>?_,fun t u hne g hg1 hg2=>?_⟩
 ·by_cases e:t=s
  ·subst e;rw[lK,lK];exact ho
  ·rw[kK _ _ e,kK _ _ e]
   have h1:=h.own t
   exact h1.same fun g hgg=>hg.block g (h1.blk hgg).2 fun e2=>h.oQ t s e g hgg e2.symm
 ·by_cases e1:t=s
  ·subst e1
   rw[lK] at hg1
   rw[kK _ _ (fun e=>hne e.symm)] at hg2
   exact fresh u (fun e=>hne e.symm) g hg1 hg2
  ·rw[kK _ _ e1] at hg1
   by_cases e2:u=s
   ·subst e2
    rw[lK] at hg2
    exact fresh t e1 g hg2 hg1
   ·rw[kK _ _ e2] at hg2
    exact h.oQ t u hne g hg1 hg2
theorem lY.BG{y:α}{s:Nat}(h:lY w base E size enc grp vs)(k:iK base E size enc (vs s) (grp s) y w w'):lY w' base E size enc grp vs:=by
 refine⟨fun t=>?_,h.oQ⟩
 by_cases e:t=s
 ·subst e;exact k.own (h.own t)
 ·exact(h.own t).same fun g hg=>k.block g ((h.own t).blk hg).2 fun e2=>h.oQ t s e g hg e2
theorem lY.Du{w0:World}{y:α}{s:Nat}{v':Value}(h0:lY w0 base E size enc grp vs)(h:lY w base E size enc (kD grp s (grp s++[y])) (kD vs s v'))(k:iK base E size enc (vs s) (grp s) y w w') :
  lY w' base E size enc (kD grp s (grp s++[y])) (kD vs s v'):=by
 refine⟨fun t=>?_,h.oQ⟩
 have h1:=h.own t
 by_cases e:t=s
 ·subst e
  have e1:kD grp t (grp t++[y]) t=grp t++[y]:=lK _ _ _
  have e2:kD vs t v' t=v':=lK _ _ _
  rw[e1,e2] at h1 ⊢
  exact k.JK _ h1
 ·refine h1.same fun g hg=>k.block g (h1.blk hg).2 fun e2=>?_
  rw[kK _ _ e] at hg
  exact h0.oQ t s e g hg e2
theorem lY.XG(h:lY w base E size enc grp vs){s b:Nat}(hb:b<base∨w.heap.size≤b):(vs s).ownBlock≠some b:=fun e=>by
 have:=(h.own s).blk e;omega
end
def vK(n:Nat)(vs:Nat→Value):Array Value:=((List.range n).map vs).toArray
theorem BH(n:Nat)(vs:Nat→Value):(vK n vs).size=n:=by unfold vK;simp
theorem xE{n:Nat}{vs:Nat→Value}{i:Nat}(h:i<n):(vK n vs)[i]?=some (vs i):=by unfold vK;simp[h]
theorem acz(n:Nat)(vs:Nat→Value)(s:Nat)(v:Value):(vK n vs).setIfInBounds s v=vK n (kD vs s v):=by
 apply Array.ext_getElem?
 intro i
 by_cases hi:i<n
 ·rw[xE hi,Array.getElem?_setIfInBounds,BH,xE hi]
  by_cases e:s=i
  ·subst e;rw[if_pos rfl,if_pos hi,lK]
  ·rw[if_neg e,kK _ _ (fun h=>e h.symm)]
 ·rw[Array.getElem?_eq_none (by rw[Array.size_setIfInBounds,BH];omega),Array.getElem?_eq_none (by rw[BH];omega)]
theorem RI(n:Nat)(vs:Nat→Value)(s:Nat)(v:Value)(h:n≤s):vK n (kD vs s v)=vK n vs:=by
 unfold vK
 congr 1
 refine List.map_congr_left fun i hi=>?_
 have:=List.mem_range.1 hi
 exact kK _ _ (by omega)
end
section
open Go.RowKit Go.Shelf
attribute [local go_sem] Oper.semAt_some
def Tab(w:World):Prop:=∀ j,j<64→w.cell? ⟨1,j,none⟩=some (.int .u8 (Lib.deBruijn64tab.getD j 0))
theorem Tab.block{w:World}(h:Tab w):∃ o,w.heap[1]?=some o∧o.isCells=true:=cells_of_cell (h 0 (by decide))
theorem Tab.Il{X:Nat→Prop}{w w':World}(h:Tab w)(hx:¬ X 1)(hk:aU X w w'):Tab w':=fun j hj=>hk.cell hx (h j hj)
theorem Tab.kept{w w':World}(h:Tab w)(hb:Below w.heap.size w w'):Tab w':=h.Il (X:=fun _=>False) id (aU.below hb)
theorem Tab.pos{w:World}(h:Tab w):1<w.heap.size:=by obtain⟨o,ho,_⟩:=h.block;exact(Array.getElem?_eq_some_iff.1 ho).1
theorem agW(x a:Nat)(hx:x<18446744073709551616)(hx0:x≠0)(hlow:x &&& (18446744073709551616 - x)=a) :
  IntKind.u64.wrap (bits BinOp.and IntKind.u64 (x:Int) (IntKind.u64.wrap (-(x:Int)))*285870213051353865) / 288230376151711744=((a*285870213051353865 % 18446744073709551616 / 288230376151711744:Nat):Int):=by
 have e1:IntKind.u64.wrap (-(x:Int))=((18446744073709551616 - x:Nat):Int):=by rw[IntKind.wrap_u64];omega
 rw[e1,bits_and_u64_nat x _ hx (by omega),hlow,IntKind.wrap_u64]
 omega
theorem tz64_core(x k idx:Nat)(w:World)(hx0:((x:Int)==0)=false)
  (key:IntKind.u64.wrap (bits BinOp.and IntKind.u64 (x:Int) (IntKind.u64.wrap (-(x:Int)))*285870213051353865) / 288230376151711744=(idx:Int))
  (hi:idx<64) (hcell:w.cell? ⟨1,idx,none⟩=some (.int .u8 k)) (hk:k<64) :
  Calls Tryz.prog 218 #[.int .u64 x] w fun e w'=>e=.returned (.int .i64 k)∧w'=w:=by
 go_enter Tryz.func218,Tryz.ntmps218
 go_wp2_with (simp only[key])
 go_ret
 exact⟨rfl,rfl⟩
theorem agX(x:Nat)(h0:x≠0)(hx:x<18446744073709551616)(w:World)(hT:Tab w) :
  Calls Tryz.prog 218 #[.int .u64 x] w fun e w'=>e=.returned (.int .i64 (Lib.ctz 64 x:Nat))∧w'=w:=by
 obtain⟨hlow,hk⟩:=Lib.lowest_bit 64 x h0 hx
 obtain⟨hi,htab⟩:=Lib.deBruijn64_at _ hk
 have hcell:=hT _ hi
 rw[htab] at hcell
 exact tz64_core x _ _ w (by simp;omega) (agW x _ hx h0 hlow) hi hcell hk
abbrev RJ(x:Nat):Array Value:=#[.int .u8 x]
def afV(X:Nat→Prop)(J:List Nat→World→Prop)(s:au)(W wr:World)(i:Value):Prop :=
 ∃ j pre,j≤4∧i=.int .i64 (j:Nat)∧pre++zF s j (4 - j)=elems s∧J pre wr∧aU X W wr
def acA(X:Nat→Prop)(J:List Nat→World→Prop)(s:au)(j:Nat)(W wr:World)(v:Value):Prop :=
 ∃ u pre:_,u<18446744073709551616∧v=.int .u64 (u:Nat)∧pre++(jY j u++zF s (j+1) (3 - j))=elems s∧J pre wr∧aU X W wr
theorem RN(u:Nat)(h0:u≠0)(h:u<18446744073709551616):bits BinOp.and IntKind.u64 (u:Int) ((u:Int) - 1)=((u &&& (u - 1):Nat):Int):=by
 rw[show((u:Int) - 1)=((u - 1:Nat):Int) by omega,bits_and_u64_nat u _ h (by omega)]
set_option maxRecDepth 100000 in
theorem acB(n l Bs:Nat)(X:Nat→Prop)(RP:¬ X 1)(J Jx:List Nat→World→Prop)(s:au)
  (hY:∀ pre x W,J pre W→pre.length<(elems s).length→x<256→YieldAt Fence.wide (n - 1) Tryz.prog l (RJ x) W fun e W'=>(e=.returned (.bool true)∧J (pre++[x]) W'∧aU X W W')∨(e=.returned (.bool false)∧Jx (pre++[x]) W'))
  (W:World) (hT:Tab W) (hBs:Box W Bs (bV s) 99) (h0:J [] W) :
  CallsIn Fence.wide n Tryz.prog 217 #[.func (.yield l) #[] #[],.pointer (some ⟨Bs,0,none⟩)] W fun e W'=>(∃ v,e=.returned v)∧((∃ ys,ys=elems s∧J ys W')∨(∃ pre,pre <+: elems s∧Jx pre W')):=by
 obtain⟨c0,c1,c2,c3⟩:=hBs.jE
 refine callsIn_of_wp Tryz.func217 rfl trivial ?_ rfl
 simp only[Tryz.ntmps217,List.size_toArray,List.length_cons,List.length_nil,Nat.reduceAdd,Nat.reduceSub,Array.replicate_succ,Array.replicate_zero,List.push_toArray,List.append_toArray,List.nil_append,List.cons_append]
 gi_wp2
 gi_loopw [6] (fun i wr=>afV X J s W wr i) (fun i _=>4 - (intOf i).toNat)
 case atStart=>exact⟨0,[],by omega,rfl,by rw[List.nil_append];exact(IW s).symm,h0,aU.refl _ _⟩
 case round =>
  obtain⟨j,pre,hj,rfl,he,wP,hkr⟩:=hrel
  by_cases hlt:j<4
  ·have gw:=BF s j hlt
   have hdj:decide ((j:Int)<4)=true:=decide_eq_true (by omega)
   rw[show 4 - j=(3 - j)+1 by omega,zF] at he
   have hu:=word_lt s j
   generalize word s j=u0 at *
   gi_wp2
   gi_loopw [4] (fun v wr=>acA X J s j W wr v) (fun v _=>(intOf v).toNat)
   case atStart=>exact⟨_,pre,hu,rfl,he,wP,hkr⟩
   case round =>
    obtain⟨u,pre,hu,rfl,he,wP,hkr⟩:=hrel
    by_cases hz:u=0
    ·subst hz
     rw[jY,IV,List.map_nil,List.nil_append] at he
     gi_wp2
     exact⟨⟨j+1,pre,hlt,by simp,by rw[show 4 - (j+1)=3 - j by omega];exact he,wP,hkr⟩,by simp[intOf];omega⟩
    ·have hne:((u:Int) != 0)=true:=by simp;omega
     obtain⟨hls,hk,hdec⟩:=QY u hz hu
     have hand:=RN u hz hu
     have Ae:jY j u=(64*j+Lib.ctz 64 u)::jY j (u &&& (u - 1)):=by rw[jY,hls];rfl
     have hl:pre.length<(elems s).length:=by
      rw[←he,jY,hls];simp
     have FQ:=hY pre (64*j+Lib.ctz 64 u) wr wP hl (by omega)
     rw[show RJ (64*j+Lib.ctz 64 u)=#[.int .u8 ((j:Int)*64+(Lib.ctz 64 u:Nat))] by simp only[RJ];rw[show((64*j+Lib.ctz 64 u:Nat):Int)=(j:Int)*64+(Lib.ctz 64 u:Nat) by omega]] at FQ
     obtain⟨fn,tmps,assign,body,hy,hR⟩:=FQ
     have HT:=ah (hT.Il RP hkr)
     have TZ:=fun w hT=>agX u hz hu w hT
     generalize Lib.ctz 64 u=k at *
     have hdd:∀ k:Nat,(Fence.wide.depth.isSome=true→1≤k):=fun k h=>by cases h
     gi_wp2_with (first | (refine⟨trivial,hdd _,?_⟩;gi_at_call 218;go_must (refine(callsIn_wide.2 (TZ _ HT.out)).mono ?_;rintro e w1 ⟨rfl,rfl⟩)) | (refine⟨hdd _,?_⟩;refine hR.mono ?_;clear hR;rintro e W2 (⟨rfl,hJ2,hk2⟩ | ⟨rfl,hx2⟩)))
     ·refine⟨⟨u &&& (u - 1),pre++[64*j+k],by omega,rfl,?_,hJ2,hkr.trans hk2⟩,by simp[intOf];omega⟩
      rw[←he,Ae];simp
     ·refine bodyPost_ret (results_none rfl _ _ _) rfl ?_
      refine⟨⟨_,rfl⟩,.inr ⟨_,?_,hx2⟩⟩
      rw[←he,Ae]
      exact⟨jY j (u &&& (u - 1))++zF s (j+1) (3 - j),by simp⟩
  ·obtain rfl:j=4:=by omega
   rw[show zF s 4 (4 - 4)=[] from rfl,List.append_nil] at he
   subst he
   gi_wp2
   go_end0
   exact⟨⟨_,rfl⟩,.inl ⟨_,rfl,wP⟩⟩
theorem XH(n Bs:Nat)(X:Nat→Prop)(s:au)(w:World)(RP:¬ X 1)(hT:Tab w)(hBs:Box w Bs (bV s) 99) :
  SeqStopsK Fence.wide n Tryz.prog 217 #[.pointer (some ⟨Bs,0,none⟩)] RJ (aU X) (fun ys=>ys=elems s) (fun pre=>pre <+: elems s) (elems s).length w:=fun l J Jx W hW _ _ hY h0 =>
 acB n l Bs X RP J Jx s (fun pre x W hj hl _=>hY pre x W hj hl) W (hT.kept hW) (hBs.kept hW) h0
theorem afW(s:au)(w:World):Calls Tryz.prog 194 #[.agg (bV s)] w fun e w'=>e=.returned (.func (.func 217) #[] #[.pointer (some ⟨w.heap.size,0,none⟩)])∧w'=w.alloc (.cells (bV s) 99):=by
 go_enter Tryz.func194,Tryz.ntmps194
 go_wp2
 go_ret
 exact⟨rfl,rfl⟩
end
section
open Go.RowKit Go.Shelf
attribute [local go_sem] Oper.semAt_some
end
section
open Go.RowKit Go.Shelf
attribute [local go_sem] Oper.semAt_some
theorem Own.cellAt{α:Type}{w:World}{base E size g n cap:Nat}{enc:α→List Value}{xs:List α}(h:Own w base E size enc (.slice (some ⟨g,0,none⟩) n cap) xs){i j:Nat}(hi:i<xs.length)(hj:j<size) :
  w.cell? ⟨g,i*size+j,none⟩=(enc xs[i])[j]?∧w.frozen? ⟨g,i*size+j,none⟩=false∧base≤g∧g<w.heap.size:=by
 obtain⟨a,cap',hv,hle,hm,hh⟩:=h
 obtain⟨rfl,_,_⟩:=Value.slice.inj hv
 rcases hh with⟨h0,_⟩ | ⟨g',cur,ha,hb,hg,hs,hx⟩
 ·cases h0
 ·obtain rfl:g=g':=by simpa using ha
  exact⟨by rw[hg.cell,hx i hi j hj],hg.free _,hb,hg.lt⟩
theorem Own.store1{α:Type}{w:World}{base E size g n cap:Nat}{enc:α→List Value}{xs:List α}(h:Own w base E size enc (.slice (some ⟨g,0,none⟩) n cap) xs){i j:Nat}(hi:i<xs.length)(hj:j<size)(y:α)(v:Value)
  (hy:∀ k,k<size→(enc y)[k]?=if k=j then some v else (enc xs[i])[k]?):Own (w.setCell ⟨g,i*size+j,none⟩ v) base E size enc (.slice (some ⟨g,0,none⟩) n cap) (xs.set i y):=by
 obtain⟨a,cap',hv,hle,hm,hh⟩:=h
 obtain⟨rfl,hn,rfl⟩:=Value.slice.inj hv
 rcases hh with⟨h0,_⟩ | ⟨g',cur,ha,hb,hg,hs,hx⟩
 ·cases h0
 ·obtain rfl:g=g':=by simpa using ha
  refine⟨_,cap,by rw[List.length_set,hn],by rwa[List.length_set],hm,.inr ⟨g,_,rfl,hb,hg.set _ _,by simpa using hs,fun i' hi' k hk=>?_⟩⟩
  rw[List.length_set] at hi'
  have hlt:i*size+j<cur.size:=by rw[hs];exact Nat.lt_of_lt_of_le (Nat.add_lt_add_left hj _) (by rw[←Nat.succ_mul];exact Nat.mul_le_mul_right _ (by omega))
  rw[Array.getElem?_setIfInBounds]
  by_cases e:i=i'
  ·subst e
   rw[List.getElem_set_self,hy k hk]
   by_cases e2:k=j
   ·subst e2;rw[if_pos rfl,if_pos hlt,if_pos rfl]
   ·rw[if_neg (by omega),if_neg e2,hx i hi k hk]
  ·rw[List.getElem_set_ne e,if_neg,hx i' hi' k hk]
   intro e2
   rcases Nat.lt_or_gt_of_ne e with h1 | h1
   ·have:=Nat.mul_le_mul_right size (show i+1≤i' by omega);rw[Nat.succ_mul] at this;omega
   ·have:=Nat.mul_le_mul_right size (show i'+1≤i by omega);rw[Nat.succ_mul] at this;omega
end
section
open Go.RowKit
end
section
open Go.RowKit
end
section
open Go.RowKit
def ends(s:au)(j:Nat):Bool:=decide (j=255)||!mem s (j+1)
end
section
open Go.RowKit Go.Shelf
attribute [local go_sem] Oper.semAt_some
abbrev qZ(x:Nat):Array Value:=#[.int .i64 x]
def ajS(X:Nat→Prop)(J:List Nat→World→Prop)(N m S:Nat)(W wr:World)(i:Value):Prop :=
 ∃ j pre,j≤m∧i=.int .i64 (j:Nat)∧pre++xW S j (m - j)=gZ N S∧J pre wr∧aU X W wr
def agY(X:Nat→Prop)(J:List Nat→World→Prop)(N m S j:Nat)(W wr:World)(v:Value):Prop :=
 ∃ u pre:_,u<18446744073709551616∧v=.int .u64 (u:Nat)∧pre++(jY j u++xW S (j+1) (m - j - 1))=gZ N S∧J pre wr∧aU X W wr
set_option maxRecDepth 100000 in
theorem RQ(n l Bq p g N S:Nat)(X:Nat→Prop)(RP:¬ X 1)(hgX:¬ X g)(J Jx:List Nat→World→Prop)(hN:N≤1048576)
  (hY:∀ pre x W,J pre W→pre.length<(gZ N S).length→YieldAt Fence.wide (n - 1) Tryz.prog l (qZ x) W fun e W'=>(e=.returned (.bool true)∧J (pre++[x]) W'∧aU X W W')∨(e=.returned (.bool false)∧Jx (pre++[x]) W'))
  (W:World) (hT:Tab W) (hq:Box W Bq #[.pointer (some ⟨p,0,none⟩)] 261) (hB:fV W p g N S) (h0:J [] W) :
  CallsIn Fence.wide n Tryz.prog 241 #[.func (.yield l) #[] #[],.pointer (some ⟨Bq,0,none⟩)] W fun e W'=>(∃ v,e=.returned v)∧((∃ ys,ys=gZ N S∧J ys W')∨(∃ pre,pre <+: gZ N S∧Jx pre W')):=by
 have c0:W.cell? ⟨Bq,0,none⟩=some (.pointer (some ⟨p,0,none⟩)):=hq.cell 0
 have x1:W.cell? ⟨p,1,none⟩=some (.slice (some ⟨g,0,none⟩) (dh N) (dh N)):=hB.box.cell 1
 have hwd:=hB.words
 have hel:=Xt N (dh N) S (by unfold dh;omega) hB.lt
 have hm:dh N≤16384:=by unfold dh;omega
 generalize dh N=m at *
 have HWD:=ah hwd;have HEL:=ah hel
 clear hwd hB hq hel
 refine callsIn_of_wp Tryz.func241 rfl trivial ?_ rfl
 simp only[Tryz.ntmps241,List.size_toArray,List.length_cons,List.length_nil,Nat.reduceAdd,Nat.reduceSub,Array.replicate_succ,Array.replicate_zero,List.push_toArray,List.append_toArray,List.nil_append,List.cons_append]
 gi_wp2
 gi_loopw [12] (fun i wr=>ajS X J N m S W wr i) (fun i _=>m - (intOf i).toNat)
 case atStart=>exact⟨0,[],by omega,rfl,by rw[List.nil_append];exact HEL.out.symm,h0,aU.refl _ _⟩
 case round =>
  obtain⟨j,pre,hj,rfl,he,wP,hkr⟩:=hrel
  by_cases hlt:j<m
  ·have hbx:=hkr.box hgX HWD.out
   have gw:wr.cell? ⟨g,j,none⟩=some (.int .u64 (dW S j:Nat)):=(hbx.cell _).trans (o8 _ _ _ hlt)
   have hbl:=hbx.lt
   have hdj:decide ((j:Int)<(m:Int))=true:=decide_eq_true (by omega)
   rw[show m - j=(m - j - 1)+1 by omega,xW] at he
   have hu:=Ef S j
   generalize dW S j=u0 at *
   clear hbx
   gi_wp2
   gi_loopw [4] (fun v wr=>agY X J N m S j W wr v) (fun v _=>(intOf v).toNat)
   case atStart=>exact⟨_,pre,hu,rfl,he,wP,hkr⟩
   case round =>
    clear gw hbl
    obtain⟨u,pre,hu,rfl,he,wP,hkr⟩:=hrel
    by_cases hz:u=0
    ·subst hz
     rw[jY,IV,List.map_nil,List.nil_append] at he
     gi_wp2
     exact⟨⟨j+1,pre,hlt,by simp,by rw[show m - (j+1)=m - j - 1 by omega];exact he,wP,hkr⟩,by simp[intOf];omega⟩
    ·have hne:((u:Int) != 0)=true:=by simp;omega
     obtain⟨hls,hk,hdec⟩:=QY u hz hu
     have hand:=RN u hz hu
     have Ae:jY j u=(64*j+Lib.ctz 64 u)::jY j (u &&& (u - 1)):=by rw[jY,hls];rfl
     have hl:pre.length<(gZ N S).length:=by
      rw[←he,jY,hls];simp
     have FQ:=hY pre (64*j+Lib.ctz 64 u) wr wP hl
     rw[show qZ (64*j+Lib.ctz 64 u)=#[.int .i64 ((j:Int)*64+(Lib.ctz 64 u:Nat))] by simp only[qZ];rw[show((64*j+Lib.ctz 64 u:Nat):Int)=(j:Int)*64+(Lib.ctz 64 u:Nat) by omega]] at FQ
     obtain⟨fn,tmps,assign,body,hy,hR⟩:=FQ
     have HT:=ah (hT.Il RP hkr)
     have TZ:=fun w hT=>agX u hz hu w hT
     generalize Lib.ctz 64 u=k at *
     have hdd:∀ k:Nat,(Fence.wide.depth.isSome=true→1≤k):=fun k h=>by cases h
     gi_wp2_with (first | (refine⟨trivial,hdd _,?_⟩;gi_at_call 218;go_must (refine(callsIn_wide.2 (TZ _ HT.out)).mono ?_;rintro e w1 ⟨rfl,rfl⟩)) | (refine⟨hdd _,?_⟩;refine hR.mono ?_;clear hR;rintro e W2 (⟨rfl,hJ2,hk2⟩ | ⟨rfl,hx2⟩)))
     ·refine⟨⟨u &&& (u - 1),pre++[64*j+k],by omega,rfl,?_,hJ2,hkr.trans hk2⟩,by simp[intOf];omega⟩
      rw[←he,Ae];simp
     ·refine bodyPost_ret (results_none rfl _ _ _) rfl ?_
      refine⟨⟨_,rfl⟩,.inr ⟨_,?_,hx2⟩⟩
      rw[←he,Ae]
      exact⟨jY j (u &&& (u - 1))++xW S (j+1) (m - j - 1),by simp⟩
  ·obtain rfl:j=m:=by omega
   rw[Nat.sub_self,show xW S j 0=[] from rfl,List.append_nil] at he
   subst he
   gi_wp2
   go_end0
   exact⟨⟨_,rfl⟩,.inl ⟨_,rfl,wP⟩⟩
theorem Oe(n Bq p g N S:Nat)(X:Nat→Prop)(w:World)(hN:N≤1048576)(RP:¬ X 1)(hgX:¬ X g)(hT:Tab w)(hq:Box w Bq #[.pointer (some ⟨p,0,none⟩)] 261)(hB:fV w p g N S) :
  SeqStopsK Fence.wide n Tryz.prog 241 #[.pointer (some ⟨Bq,0,none⟩)] qZ (aU X) (fun ys=>ys=gZ N S) (fun pre=>pre <+: gZ N S) (gZ N S).length w:=fun l J Jx W hW _ _ hY h0 =>
 RQ n l Bq p g N S X RP hgX J Jx hN (fun pre x W hj hl=>hY pre x W hj hl) W (hT.kept hW) (hq.kept hW) (hB.kept hW) h0
theorem Ve(a:Option Addr)(w:World):Calls Tryz.prog 233 #[.pointer a] w fun e w'=>e=.returned (.func (.func 241) #[] #[.pointer (some ⟨w.heap.size,0,none⟩)])∧w'=w.alloc (.cells #[.pointer a] 261):=by
 go_enter Tryz.func233,Tryz.ntmps233
 go_wp2
 go_ret
 exact⟨rfl,rfl⟩
end
section
open Go.RowKit Go.Shelf
attribute [local go_sem] Oper.semAt_some
def ag1(b:Nat)(w:World)(pre:List Nat)(W:World):Prop:=Box W (b+1) #[.int .i64 0] 3∧pre=[]∧Below b w W
def ag2(b:Nat)(w:World)(c:Code)(pre:List Nat)(W:World):Prop:=c=.ret∧∃ x:Nat,pre=[x]∧Box W (b+1) #[.int .i64 (wrap64 x)] 3∧Below b w W
set_option maxRecDepth 100000 in
theorem XI(s:au)(w:World)(hT:Tab w):Calls Tryz.prog 156 #[.agg (bV s)] w (aX w (.int .i64 (leastOf s))):=by
 have hle:=Qq s
 have hlt:=fun x=>@ab4 s x
 have hN:=afW s
 refine(callsIn_wide (n:=6)).1 ?_
 refine callsIn_of_wp_marks Tryz.func156 rfl trivial ?_ rfl
 simp only[Tryz.ntmps156,List.size_toArray,List.length_cons,List.length_nil,Nat.reduceAdd,Nat.reduceSub,Array.replicate_succ,Array.replicate_zero,List.push_toArray,List.append_toArray,List.nil_append,List.cons_append]
 gi_wp2_with (refine⟨trivial,?_⟩;gi_at_call 194;refine(callsIn_wide.2 (hN _)).mono ?_;rintro e w' ⟨rfl,rfl⟩)
 obtain⟨W0,hW0⟩:∃ W0,(((w.alloc (.cells (bV s) 99)).alloc (.cells #[.int .i64 0] 3)).alloc (.cells (bV s) 99))=W0:=⟨_,rfl⟩
 have hB0:Below w.heap.size w W0:=by rw[←hW0];go_grown
 have hsz0:W0.heap.size=w.heap.size+1+1+1:=by rw[←hW0];simp
 have hbt:Box W0 (w.heap.size+1+1) (bV s) 99:=by rw[←hW0];exact Box.new' (by simp) _ _
 have hn0:Box W0 (w.heap.size+1) #[.int .i64 0] 3:=by rw[←hW0];exact(Box.new' (by simp) _ _).alloc _
 rw[hW0]
 clear hW0
 have hpos:=hT.pos
 have hst:=XH 5 (w.heap.size+1+1) (fun b=>b=w.heap.size+1) s W0 (by omega) (hT.kept hB0) hbt
 refine wpIn_rangeFunc_ownF rfl (by decide) (gf:=217) (lb:=#[.pointer (some ⟨w.heap.size+1+1,0,none⟩)]) rfl trivial (enters_of Tryz.func217 (by kernel_rfl) rfl)
  hst (fun h k=>h.trans k) Ij (Below.refl _ _) (fun _=>rfl)
  (ag1 w.heap.size w) (ag2 w.heap.size w)
  (OwnFrom.and (iI _ _ _ _) (OwnFrom.and (fun _ _ _ _ h _ _=>h) (ownFrom_below (Nat.le_refl _) (by omega))))
  (fun _=>fun pre W W' row ⟨h1,x,h2,h3,h4⟩ hg hr=>⟨h1,x,h2,iI _ _ _ (fun _:Unit=>#[.int .i64 (wrap64 x)]) () W W' row h3 hg hr,ownFrom_below (β:=Unit) (Nat.le_refl _) (by omega) () W W' row h4 hg hr⟩) ⟨hn0,rfl,hB0⟩
  (fun x=>{ tmps:=#[.agg (bV s),.pointer (some ⟨w.heap.size,0,none⟩),.pointer (some ⟨w.heap.size+1,0,none⟩),.int .u8 (x:Nat),.agg (bV s),.func (.func 217) #[] #[.pointer (some ⟨w.heap.size+1+1,0,none⟩)],.int .u8 (x:Nat),undef,undef],defers:=[] }) ?assign ?body ?done ?stop
 case assign =>
  intro l x W K hK
  dsimp only[RJ]
  go_simp
  gi_wp2
  exact hK
 case body =>
  rintro l pre x W ⟨hb,rfl,hB⟩ hlt
  have c0:=hb.cell 0
  have f0:=hb.free 0
  gi_wp2
  exact⟨KeepsOthers.setCell _ _ _,rfl,x,rfl,hb.set 0 _,hB.setCell (by simp) _⟩
 case done =>
  rintro D ys W hD rfl ⟨hb,hys,hB⟩ hK
  have c0:=hb.cell 0
  have f0:=hb.free 0
  rw[hys] at hle
  gi_wp2
  have hK':=(KeepsOthers.setCell W ⟨w.heap.size+1,0,none⟩ (.int .i64 (-1))).same D _ hK rfl
  refine⟨by simp,.inl ⟨_,_,rfl,run_takeDeferred hK',?_⟩⟩
  have hc5:=(iI W0.heap.size (w.heap.size+1) 3 (fun _:Unit=>#[.int .i64 (-1)]) () _ _ (some D) (hb.set 0 (.int .i64 (-1))) (grownBy_putObj' _ D (.deferred none)) (fun r e=>by cases e;exact⟨by omega,_,hK',rfl⟩)).cell 0
  refine⟨.int .i64 (-1),?_,rfl,(hB.setCell (p:=⟨w.heap.size+1,0,none⟩) (by simp) _).trans (belowK_b (w:=w) (Nat.le_refl _) _ D _ _ (by omega) hK' rfl rfl)⟩
  simp[results,Tryz.f156,go_sem,hc5]
 case stop =>
  rintro D c pre W hD hpre ⟨rfl,x,rfl,hb,hB⟩ hK
  obtain⟨r,hr⟩:=hpre
  have hx:=hlt x (by rw[←hr];simp)
  have hw:wrap64 (x:Int)=(x:Nat):=by unfold wrap64;omega
  rw[hw] at hb
  rw[←hr] at hle
  gi_wp2
  refine⟨by simp,.inl ⟨_,_,rfl,run_takeDeferred hK,?_⟩⟩
  have hc5:=(iI W0.heap.size (w.heap.size+1) 3 (fun _:Unit=>#[.int .i64 (x:Nat)]) () _ _ (some D) hb (grownBy_putObj' _ D (.deferred none)) (fun r e=>by cases e;exact⟨by omega,_,hK,rfl⟩)).cell 0
  refine⟨.int .i64 (x:Nat),?_,by rw[hle];rfl,hB.trans (belowK_b (w:=w) (Nat.le_refl _) W D _ _ (by omega) hK rfl rfl)⟩
  simp[results,Tryz.f156,go_sem,hc5]
end
section
open Go.RowKit
theorem acC:fG Tryz.prog 28 5 (.int .u8 0) 1 1:=⟨Tryz.underlying28,info_parts (by kernel_rfl),rfl,by decide⟩
theorem ZC{R:Nat→Nat→Bool}(E:yV R)(k:Nat)(hk:k<(lW R 256).length)(hk2:k<(aJ R 256).length):leastOf (lW R 256)[k]=((aJ R 256)[k]:Nat):=by
 simp only[lW,List.getElem_map]
 exact Za E (Nat.le_refl _) (List.getElem_mem hk2)
theorem RS(f:Nat→Nat)(w:World)(hT:Tab w) :
  Calls Tryz.prog 121 #[.agg (aY f)] w (jh w 5 1 gB (aJ (bg (bJ f)) 256)):=by
 have hE:=oO (bJ f)
 have hS:=Xx f
 have hl:=mQ (bg (bJ f)) 256
 have hat:=ZC hE
 have hlt:=fun x=>lT (bg (bJ f)) 256 x
 have hm:=jX (bg (bJ f)) 256
 have hw:=nM (bg (bJ f))
 rw[hw] at hl
 generalize lW (bg (bJ f)) 256=L at *
 generalize aJ (bg (bJ f)) 256=xs at *
 obtain⟨m,hxm⟩:∃ m,xs.length=m:=⟨_,rfl⟩
 rw[hxm] at hl hm
 have HS:=ah hS
 have HL:=ah hl
 have HA:=ah hat
 have HX:=ah hlt
 have HM:=ah hxm
 have HT:=ah hT
 clear hE hS hl hat hlt hw hxm hT
 go_enter Tryz.func121,Tryz.ntmps121
 go_wp2_with (first | (refine wpList_load_row rfl 22 (.tmp 1) rfl _ rfl _ _ _ _ (Box.new _ _ _) Tryz.underlying22 rfl (aZ _) ?_) | (go_at_call 155;go_must (refine(HS.out _).mono ?_;intro e w1 h1;obtain⟨a1,cap1,rfl,o1,hb1⟩:=h1;rw[HL.out] at o1 ⊢)))
 have hB1:Below w.heap.size w w1:=(aj w _).trans (hb1.mono (by simp))
 have hT1:=HT.out.kept hB1
 have hs1:=o1.slice xu
 obtain⟨b,o,hlen,hcap,hcap',ha,hbl,hcell⟩:=ak.sets hs1
 have HC:=ah hcell
 have HA1:=ah ha
 have HT1:=ah hT1
 have hsz:=hB1.size
 clear hcell ha hlen hs1 o1 hb1 hT1 hbl
 go_loopw [3,9] (fun v i wr=>∃ (k:Nat) (a:Option Addr) (cap:Nat),k≤m∧i=.int .i64 k∧v=.slice a k cap∧Own wr w1.heap.size 5 1 gB (.slice a k cap) (xs.take k)∧Below w1.heap.size w1 wr) (fun _ i _=>m - (intOf i).toNat)
 case atStart=>exact⟨0,none,0,Nat.zero_le _,rfl,rfl,Own.nil _ _ _ _ _,Below.refl _ _⟩
 case round =>
  obtain⟨k,a,cap,hk,rfl,rfl,hown,hB⟩:=hrel
  by_cases hlt:k<m
  ·have hk2:k<L.length:=by rw[HL.out];exact hlt
   have hk3:k<xs.length:=by rw[HM.out];exact hlt
   have hl1:=HA.out k hk2 hk3
   have hx:=HX.out _ (List.getElem_mem hk3)
   obtain rfl:=HA1.out k hk2
   obtain⟨c0,c1,c2,c3⟩:=HC.out k hk2 wr hB
   have htk:xs.take (k+1)=xs.take k++[xs[k]]:=List.take_succ_eq_append_getElem hk3
   have hln:(xs.take k).length=k:=by rw[List.length_take];omega
   have hle:=fun w hT=>XI L[k] w hT
   rw[hl1] at hle
   generalize xs[k]=x at *
   generalize xs.take k=ys at *
   generalize L[k]=s at *
   have V9:=ah hle
   have vM:=ah htk
   have uO:=ah hln
   have apM:ys.length≤256:=by omega
   have hu8:IntKind.u8.wrap (x:Int)=(x:Int):=nK x hx
   clear hl1 htk hln hle
   have hk0:(0:Int)≤(k:Int):=by omega
   have hkm:(k:Int)<(m:Int):=by omega
   go_wp2_with (first | (go_at_call 156;go_must (refine(V9.out _ (HT1.out.kept (hB.alloc hB.size _))).mono ?_;rintro e w5 ⟨rfl,hb5⟩;have hown5:=(hown.alloc (.cells (bV s) 99)).kept hb5)) | (at_builtin;go_must (refine eU rfl _ _ 28 rfl acC NW rfl (hown5.alloc _) ⟨w5.heap.size,0,none⟩ 1 x rfl (dA w5 [.int .u8 (x:Nat)] _) (by simp[maxLen];omega) (by omega) (by have:=hb5.size;have:=hB.size;simp at *;omega) ?_;intro a' cap' W' hown' hg)))
   rw[uO.out] at hown' ⊢
   go_roundw
   case rel =>
    refine⟨k+1,a',cap',hlt,by go_num,rfl,by rw[vM.out];exact hown',?_⟩
    have h6:=(hB.alloc hB.size (.cells (bV s) 99)).trans (hb5.mono (by have:=hB.size;simp;omega))
    have h7:=h6.alloc h6.size (.cells #[.int .u8 (x:Nat)] 5)
    exact below_grown h7 (hown5.alloc _) hg (Nat.le_refl _) h7.size
   case measure=>simp[intOf];omega
  ·obtain rfl:k=m:=by omega
   have htk:xs.take k=xs:=List.take_of_length_le (by rw[HM.out];omega)
   go_wp2
   go_ret
   rw[htk] at hown
   exact⟨a,cap,by rw[HM.out];rfl,by rw[HM.out];exact hown.mono hsz,hB1.trans (hB.mono hsz)⟩
end
section
open Go.RowKit Go.Shelf
attribute [local go_sem] Oper.semAt_some
mutual
def jw:Vt→List Vt
 | .mk k s a cap kids lo hi=>.mk k s a cap kids lo hi::ig kids
def ig:List Vt→List Vt
 | []=>[]
 | a::l=>jw a++ig l
end
theorem FT(l m:List Vt):ig (l++m)=ig l++ig m:=by
 induction l with
 | nil=>simp[ig]
 | cons a l ih=>simp[ig,ih]
theorem XJ(l:List Vt)(j:Nat)(h:j<l.length):ig (l.take (j+1))=ig (l.take j)++jw l[j]:=by
 rw[List.take_succ_eq_append_getElem h,FT];simp[ig]
theorem Vf(l:List Vt)(j:Nat)(h:j<l.length):ig l=ig (l.take j)++(jw l[j]++ig (l.drop (j+1))):=by
 have:l=l.take j++(l[j]::l.drop (j+1)):=by simp
 have e:=congrArg ig this
 rw[FT] at e
 simpa [ig] using e
theorem acD:∀ V:Vt,(jw V).length=sizeT V.tr:=by
 refine Vt.ind fun k s a cap kids lo hi ih=>?_
 rw[Vt.jP]
 have key:∀ l:List Vt,(∀ i (h:i<l.length),(jw l[i]).length=sizeT (Vt.tr l[i]))→(ig l).length=pJ (l.map Vt.tr):=by
  intro l
  induction l with
  | nil=>intro _;rfl
  | cons a l ihl =>
   intro h
   have h0:=h 0 (by simp)
   have h1:=ihl fun i hi=>h (i+1) (Nat.succ_lt_succ hi)
   simp only[List.getElem_cons_zero] at h0
   simp[ig,pJ,h0,h1]
 simp[jw,sizeT,key kids ih];omega
theorem Lies.Il{X:Nat→Prop}{w w':World}{V:Vt}(h:Lies w V)(ho:On (fun b=>¬ X b) V)(hk:aU X w w'):Lies w' V:=by
 induction h with
 | mk k s a cap kids lo hi h1 h2 h3 hs _ ih =>
  cases ho with
  | mk _ _ _ _ _ _ _ g1 g2=>exact .mk k s a cap kids lo hi h1 h2 h3 (hk.slice hs g1) fun i hi=>ih i hi (g2 i hi)
theorem On.open{S:Nat→Prop}{k:Int}{s:au}{a:Option Addr}{cap:Nat}{kids:List Vt}{lo hi:Int}(h:On S (.mk k s a cap kids lo hi)):(0<kids.length→∀ ad,a=some ad→S ad.block)∧∀ i (h:i<kids.length),On S kids[i]:=by
 cases h with
 | mk _ _ _ _ _ _ _ g1 g2=>exact⟨g1,g2⟩
abbrev QE(x:Vt):Array Value:=#[.agg x.cells.toArray]
def JL(X:Nat→Prop)(J Jx:List Vt→World→Prop)(pre q:List Vt)(W:World)(e:Ending)(W':World):Prop :=
 (e=.returned (.bool true)∧J (pre++q) W'∧aU X W W')∨(e=.returned (.bool false)∧∃ r,r <+: q∧Jx (pre++r) W')
def afX(X:Nat→Prop)(J:List Vt→World→Prop)(kids:List Vt)(pre:List Vt)(W wr:World)(i:Value):Prop :=
 ∃ j:Nat,j≤kids.length∧i=.int .i64 j∧J (pre++ig (kids.take j)) wr∧aU X W wr
set_option maxRecDepth 100000 in
theorem Og(F:Fence)(hd:F.depth=none)(hF:F.fn 141)(hro:F.round=none)(l N Bx:Nat)(X:Nat→Prop)(hX:∀ b,X b→b<Bx)(J Jx:List Vt→World→Prop)(hJ:AbidesFrom Bx J)
  (hY:∀ m pre x W,J pre W→pre.length<N→YieldAt F m Tryz.prog l (QE x) W fun e W'=>(e=.returned (.bool true)∧J (pre++[x]) W'∧aU X W W')∨(e=.returned (.bool false)∧Jx (pre++[x]) W')) :
  ∀ (V:Vt) (n:Nat) (pre:List Vt) (W:World),Lies W V→On (fun b=>¬ X b) V→Bx≤W.heap.size→J pre W→pre.length+(jw V).length≤N →
   CallsIn F n Tryz.prog 141 #[.agg V.cells.toArray,.func (.yield l) #[] #[]] W (JL X J Jx pre (jw V) W):=by
 refine Vt.ind fun k s a cap kids lo hi ih n pre W hL hO hB hJ0 hN=>?_
 have hdd:∀ k:Nat,(F.depth.isSome=true→1≤k):=fun k h=>by rw[hd] at h;cases h
 have hb1:=(Below.refl W.heap.size W).alloc (Nat.le_refl _) (.cells (aF k s a kids.length cap lo hi).toArray 101)
 have hJ1:=FN hJ hJ0 hb1
 have hbx:=Box.new W (aF k s a kids.length cap lo hi).toArray 101
 have hk1:aU X W (W.alloc (.cells (aF k s a kids.length cap lo hi).toArray 101)):=aU.below hb1
 have hNX:¬ X W.heap.size:=fun h=>by have:=hX _ h;omega
 simp only[jw,List.length_cons] at hN
 have FQ:=hY (n - 1) pre (.mk k s a cap kids lo hi) _ hJ1 (by omega)
 change YieldAt F (n - 1) Tryz.prog l #[.agg (aF k s a kids.length cap lo hi).toArray] _ _ at FQ
 obtain⟨fn,tmps,assign,body,hy,hR⟩:=FQ
 obtain⟨_,_,_,sA,lA⟩:=hL.open
 obtain⟨oA,XK⟩:=hO.open
 have HY:=ah hy
 change CallsIn _ _ _ _ #[.agg (aF k s a kids.length cap lo hi).toArray,_] _ _
 refine callsIn_of_wp Tryz.func141 rfl hF ?_ hro
 simp only[Tryz.ntmps141,List.size_toArray,List.length_cons,List.length_nil,Nat.reduceAdd,Nat.reduceSub,Array.replicate_succ,Array.replicate_zero,List.push_toArray,List.append_toArray,List.nil_append,List.cons_append]
 gi_wp2_with ((try refine⟨hdd _,?_⟩);refine hR.mono ?_;clear hR)
 rintro e W2 (⟨rfl,hJ2,hk2⟩ | ⟨rfl,hx2⟩)
 ·have hk3:=hk1.trans hk2
  have hb2:=hk2.box hNX hbx
  obtain⟨p0,p1,p2,p3,p4,p5,p6,p7⟩:=hb2.node
  have hB2:Bx≤W2.heap.size:=Nat.le_trans hB hk3.size
  have s2:=hk3.slice sA oA
  have HL:=ah fun i (h:i<kids.length)=>(lA i h).Il (XK i h) hk3
  have HI:=ah ih
  have HO:=ah XK
  have HA:=ah oA
  have hfin:∀ e W',((e=.returned (.bool true)∧J (pre++[Vt.mk k s a cap kids lo hi]++ig kids) W'∧aU X W2 W')∨(e=.returned (.bool false)∧∃ r,r <+: ig kids∧Jx (pre++[Vt.mk k s a cap kids lo hi]++r) W'))→JL X J Jx pre (jw (.mk k s a cap kids lo hi)) W e W':=fun e W' h=>by
   rcases h with⟨h1,h2,h3⟩ | ⟨h1,r,h2,h3⟩
   ·exact .inl ⟨h1,by simpa [jw] using h2,hk3.trans h3⟩
   ·exact .inr ⟨h1,Vt.mk k s a cap kids lo hi::r,by simpa [jw] using h2,by simpa using h3⟩
  have HF:=ah hfin
  have hlen:(pre++[Vt.mk k s a cap kids lo hi]).length+(ig kids).length≤N:=by simp only[List.length_append,List.length_singleton];omega
  clear hbx hb2 sA lA ih XK hy HY hk1 hk2 hb1 hJ1 hO hL oA hfin
  generalize hp1:pre++[Vt.mk k s a cap kids lo hi]=acE at *
  generalize hq1:jw (Vt.mk k s a cap kids lo hi)=q1 at *
  have HP:=ah hp1
  have HQ:=ah hq1
  clear hp1 hq1
  gi_wp2
  gi_loopw [14] (fun i wr=>afX X J kids acE W2 wr i) (fun i _=>kids.length - (intOf i).toNat)
  case atStart=>exact⟨0,Nat.zero_le _,rfl,by simpa [ig] using hJ2,aU.refl _ _⟩
  case round =>
   obtain⟨j,hj,rfl,wP,hkr⟩:=hrel
   by_cases hlt:j<kids.length
   ·obtain⟨b,o,c1,c2,c3,_,c5⟩:=(hkr.slice s2 HA.out).kids
    clear s2
    obtain rfl:=c3 j hlt
    have e1:=c5 j hlt wr (Below.refl _ _)
    have hb3:=(Below.refl wr.heap.size wr).alloc (Nat.le_refl _) (.cells kids[j].cells.toArray 101)
    have hJ3:=FN hJ wP hb3
    have hk4:aU X W2 (wr.alloc (.cells kids[j].cells.toArray 101)):=hkr.trans (aU.below hb3)
    have hps:=Vf kids j hlt
    have hpt:=XJ kids j hlt
    have hNj:(acE++ig (kids.take j)).length+(jw kids[j]).length≤N:=by
     have:=congrArg List.length hps
     simp only[List.length_append] at this ⊢
     omega
    have i1:=HI.out j hlt (n - 1) (acE++ig (kids.take j)) _ ((HL.out j hlt).Il (HO.out j hlt) hk4) (HO.out j hlt) (by have:=hk4.size;omega) hJ3 hNj
    have HS:=ah hps
    have HT:=ah hpt
    clear hps hpt c5 c3
    generalize kids[j]=V at *
    obtain⟨k1,s1,a1,BI,zo,lo1,hi1⟩:=V
    obtain⟨x0,x1,x2,x3,x4,x5,x6,x7⟩:=qW e1
    change CallsIn _ _ _ _ #[.agg (aF k1 s1 a1 zo.length BI lo1 hi1).toArray,_] (wr.alloc (.cells (aF k1 s1 a1 zo.length BI lo1 hi1).toArray 101)) _ at i1
    have I1:=ah i1
    clear e1 i1 hJ3 hb3
    gi_wp2_with ((try refine⟨hdd _,?_⟩);gi_at_call 141;refine I1.out.mono ?_;clear I1;rintro e W3 (⟨rfl,Zq,hk5⟩ | ⟨rfl,r,hr,hx3⟩))
    ·go_roundw
     case rel=>exact⟨j+1,hlt,by go_num,by rw[HT.out,←List.append_assoc];exact Zq,hk4.trans hk5⟩
     case measure=>simp[intOf];omega
    ·go_ret
     refine HF.out _ _ (.inr ⟨rfl,ig (kids.take j)++r,?_,by rw[←List.append_assoc];exact hx3⟩)
     rw[HS.out]
     exact List.prefix_append_right_inj _ |>.2 (hr.trans (List.prefix_append _ _))
   ·obtain rfl:j=kids.length:=by omega
    rw[List.take_length] at wP
    gi_wp2
    go_ret
    exact HF.out _ _ (.inl ⟨rfl,wP,hkr⟩)
 ·gi_wp2
  go_ret
  exact .inr ⟨rfl,[Vt.mk k s a cap kids lo hi],⟨ig kids,by simp[jw]⟩,hx2⟩
theorem ZE(F:Fence)(hd:F.depth=none)(n:Nat)(hF:F.fn 140)(hF2:F.fn 141)(hro:F.round=none)(l Bt Bx:Nat)(X:Nat→Prop)(hX:∀ b,X b→b<Bx)(J Jx:List Vt→World→Prop)(hJ:AbidesFrom Bx J)(V:Vt)
  (hY:∀ pre x W,J pre W→pre.length<(jw V).length→YieldAt F (n - 1) Tryz.prog l (QE x) W fun e W'=>(e=.returned (.bool true)∧J (pre++[x]) W'∧aU X W W')∨(e=.returned (.bool false)∧Jx (pre++[x]) W'))
  (W:World) (hB:Bx≤W.heap.size) (hBt:Box W Bt V.cells.toArray 101) (hL:Lies W V) (hO:On (fun b=>¬ X b) V) (h0:J [] W) :
  CallsIn F n Tryz.prog 140 #[.func (.yield l) #[] #[],.pointer (some ⟨Bt,0,none⟩)] W fun e W'=>(∃ v,e=.returned v)∧((∃ ys,ys=jw V∧J ys W')∨(∃ pre,pre <+: jw V∧Jx pre W')):=by
 have hdd:∀ k:Nat,(F.depth.isSome=true→1≤k):=fun k h=>by rw[hd] at h;cases h
 have hp:=Og F hd hF2 hro l (jw V).length Bx X hX J Jx hJ (fun m pre x W hj hl=>ZA hd m (hY pre x W hj hl)) V (n - 1) [] W hL hO hB h0 (by simp)
 have hq:∀ e W',JL X J Jx [] (jw V) W e W'→(e=.returned (.bool true)∧J (jw V) W')∨(e=.returned (.bool false)∧∃ r,r <+: jw V∧Jx r W'):=fun e W' h=>by
  rcases h with⟨h1,h2,_⟩ | ⟨h1,r,h2,h3⟩
  ·exact .inl ⟨h1,by simpa using h2⟩
  ·exact .inr ⟨h1,r,h2,by simpa using h3⟩
 have hp2:=hp.mono hq
 clear hp hq hY hL hO h0
 generalize jw V=q at *
 obtain⟨k,s,a,cap,kids,lo,hi⟩:=V
 obtain⟨p0,p1,p2,p3,p4,p5,p6,p7⟩:=Box.node hBt
 change CallsIn _ _ _ _ #[.agg (aF k s a kids.length cap lo hi).toArray,_] _ _ at hp2
 refine callsIn_of_wp Tryz.func140 rfl hF ?_ hro
 simp only[Tryz.ntmps140,List.size_toArray,List.length_cons,List.length_nil,Nat.reduceAdd,Nat.reduceSub,Array.replicate_succ,Array.replicate_zero,List.push_toArray,List.append_toArray,List.nil_append,List.cons_append]
 gi_wp2_with ((try refine⟨hdd _,?_⟩);gi_at_call 141;refine hp2.mono ?_;clear hp2;rintro e W1 (⟨rfl,hJ1⟩ | ⟨rfl,r,hr,hx⟩))
 ·go_end0
  exact⟨⟨_,rfl⟩,.inl ⟨_,rfl,hJ1⟩⟩
 ·go_end0
  exact⟨⟨_,rfl⟩,.inr ⟨r,hr,hx⟩⟩
theorem Vg(F:Fence)(hd:F.depth=none)(n:Nat)(hF:F.fn 140)(hF2:F.fn 141)(hro:F.round=none)(Bt:Nat)(X:Nat→Prop)(V:Vt)(w:World)(hX:∀ b,X b→b<w.heap.size)
  (hBt:Box w Bt V.cells.toArray 101) (hL:Lies w V) (hO:On (fun b=>¬ X b) V) :
  SeqStopsK F n Tryz.prog 140 #[.pointer (some ⟨Bt,0,none⟩)] QE (aU X) (fun ys=>ys=jw V) (fun pre=>pre <+: jw V) (jw V).length w:=fun l J Jx W hW hJ _ hY h0 =>
 ZE F hd n hF hF2 hro l Bt W.heap.size X (fun b hb=>Nat.lt_of_lt_of_le (hX b hb) hW.size) J Jx hJ V hY W (Nat.le_refl _) (hBt.kept hW) (hL.kept hW) hO h0
theorem acF(V:Vt)(w:World):Calls Tryz.prog 103 #[.agg V.cells.toArray] w fun e w'=>e=.returned (.func (.func 140) #[] #[.pointer (some ⟨w.heap.size,0,none⟩)])∧w'=w.alloc (.cells V.cells.toArray 101):=by
 obtain⟨k,s,a,cap,kids,lo,hi⟩:=V
 change Calls _ _ #[.agg (aF k s a kids.length cap lo hi).toArray] _ _
 go_enter Tryz.func103,Tryz.ntmps103
 go_wp2
 go_ret
 exact⟨rfl,rfl⟩
end
end Go.Proofs.YtaoinbjjolikhaaGreatDoor
