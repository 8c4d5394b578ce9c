/- The texts of E8, in few letters (mini.py). -/
import Derived.Test.YtengfapcaaacaaaGreatDoorF7
import Derived.Test.YtengfapcaaacaaaGreatDoorF6
set_option linter.unusedVariables false
set_option linter.unusedSimpArgs false
set_option maxHeartbeats 2000000
set_option maxRecDepth 20000
namespace Go.Proofs.YtengfapcaaacaaaGreatDoor
section
open Go.RowKit
structure ni{α:Type}(w:World)(base E size:Nat)(enc:α→List Value)(grp:Nat→List α)(vs:Nat→Value):Prop where
 own:∀ s,Own w base E size enc (vs s) (grp s)
 oQ:∀ s t,s≠t→∀ g,(vs s).ownBlock=some g→(vs t).ownBlock≠some g
def kG{β:Type}(f:Nat→β)(s:Nat)(v:β)(t:Nat):β:=if t=s then v else f t
theorem gu{β:Type}(f:Nat→β)(s:Nat)(v:β):kG f s v s=v:=if_pos rfl
theorem kH{β:Type}(f:Nat→β){s t:Nat}(v:β)(h:t≠s):kG f s v t=f t:=if_neg h
section
variable {α:Type} {w w' w'':World} {base E size:Nat} {enc:α→List Value} {grp:Nat→List α} {vs:Nat→Value}
theorem ni.new(w:World)(base E size:Nat)(enc:α→List Value):ni w base E size enc (fun _=>[]) (fun _=>.slice none 0 0) :=
 ⟨fun _=>Own.nil _ _ _ _ _,fun _ _ _ g hg=>by cases hg⟩
theorem ni.same(h:ni w base E size enc grp vs)(hb:∀ b,base≤b→b<w.heap.size→w'.heap[b]?=w.heap[b]?):ni w' base E size enc grp vs :=
 ⟨fun s=>(h.own s).same fun g hg=>hb g ((h.own s).blk hg).1 ((h.own s).blk hg).2,h.oQ⟩
theorem ni.kept(h:ni w base E size enc grp vs)(hb:Below w.heap.size w w'):ni w' base E size enc grp vs:=h.same fun b _ hl=>hb.block b hl
theorem ni.put(h:ni w base E size enc grp vs)(s:Nat)(y:α){v':Value}(ho:Own w' base E size enc v' (grp s++[y]))(hg:w.grownBy w' (vs s).ownBlock)(hf:v'.ownBlock=(vs s).ownBlock∨v'.ownBlock=some w.heap.size) :
  ni w' base E size enc (kG grp s (grp s++[y])) (kG vs s v'):=by
 have fresh:∀ t,t≠s→∀ g,v'.ownBlock=some g→(vs t).ownBlock≠some g:=fun t ht g h1 h2=>by
  rcases hf with e | e
  ·exact h.oQ t s ht g h2 (e▸h1)
  ·rw[e] at h1
   cases h1
   have:=((h.own t).blk h2).2
   omega
 refine⟨fun t=>?_,fun t u hne g hg1 hg2=>?_⟩
 ·by_cases e:t=s
  ·subst e;rw[gu,gu];exact ho
  ·rw[kH _ _ e,kH _ _ e]
   have h1:=h.own t
   exact h1.same fun g hgg=>hg.block g (h1.blk hgg).2 fun e2=>h.oQ t s e g hgg e2.symm
 ·by_cases e1:t=s
  ·subst e1
   rw[gu] at hg1
   rw[kH _ _ (fun e=>hne e.symm)] at hg2
   exact fresh u (fun e=>hne e.symm) g hg1 hg2
  ·rw[kH _ _ e1] at hg1
   by_cases e2:u=s
   ·subst e2
    rw[gu] at hg2
    exact fresh t e1 g hg2 hg1
   ·rw[kH _ _ e2] at hg2
    exact h.oQ t u hne g hg1 hg2
theorem ni.GL{y:α}{s:Nat}(h:ni w base E size enc grp vs)(k:jv base E size enc (vs s) (grp s) y w w'):ni w' base E size enc grp vs:=by
 refine⟨fun t=>?_,h.oQ⟩
 by_cases e:t=s
 ·subst e;exact k.own (h.own t)
 ·exact(h.own t).same fun g hg=>k.block g ((h.own t).blk hg).2 fun e2=>h.oQ t s e g hg e2
theorem ni.Fh{w0:World}{y:α}{s:Nat}{v':Value}(h0:ni w0 base E size enc grp vs)(h:ni w base E size enc (kG grp s (grp s++[y])) (kG vs s v'))(k:jv base E size enc (vs s) (grp s) y w w') :
  ni w' base E size enc (kG grp s (grp s++[y])) (kG vs s v'):=by
 refine⟨fun t=>?_,h.oQ⟩
 have h1:=h.own t
 by_cases e:t=s
 ·subst e
  have e1:kG grp t (grp t++[y]) t=grp t++[y]:=gu _ _ _
  have e2:kG vs t v' t=v':=gu _ _ _
  rw[e1,e2] at h1 ⊢
  exact k.Np _ h1
 ·refine h1.same fun g hg=>k.block g (h1.blk hg).2 fun e2=>?_
  rw[kH _ _ e] at hg
  exact h0.oQ t s e g hg e2
theorem ni.ahJ(h:ni w base E size enc grp vs){s b:Nat}(hb:b<base∨w.heap.size≤b):(vs s).ownBlock≠some b:=fun e=>by
 have:=(h.own s).blk e;omega
end
def Ji(n:Nat)(vs:Nat→Value):Array Value:=((List.range n).map vs).toArray
theorem Fj(n:Nat)(vs:Nat→Value):(Ji n vs).size=n:=by unfold Ji;simp
theorem Rj{n:Nat}{vs:Nat→Value}{i:Nat}(h:i<n):(Ji n vs)[i]?=some (vs i):=by unfold Ji;simp[h]
theorem ade(n:Nat)(vs:Nat→Value)(s:Nat)(v:Value):(Ji n vs).setIfInBounds s v=Ji n (kG vs s v):=by
 apply Array.ext_getElem?
 intro i
 by_cases hi:i<n
 ·rw[Rj hi,Array.getElem?_setIfInBounds,Fj,Rj hi]
  by_cases e:s=i
  ·subst e;rw[if_pos rfl,if_pos hi,gu]
  ·rw[if_neg e,kH _ _ (fun h=>e h.symm)]
 ·rw[Array.getElem?_eq_none (by rw[Array.size_setIfInBounds,Fj];omega),Array.getElem?_eq_none (by rw[Fj];omega)]
end
section
open Go.RowKit
structure UF(n:Nat)(h:Nat→Nat)(H:Nat)(up rep:Nat→Nat):Prop where
 lt:∀ i,i<n→up i<n
 H9:∀ i,i<n→rep i<n
 step:∀ i,i<n→rep (up i)=rep i
 root:∀ i,i<n→up i=i→rep i=i
 top:∀ i,i<n→up (rep i)=rep i
 bound:∀ i,i<n→h i≤H
 grow:∀ i,i<n→up i≠i→h i<h (up i)
theorem UF.new(n:Nat):UF n (fun _=>0) 0 (fun i=>i) (fun i=>i):=⟨fun _ h=>h,fun _ h=>h,fun _ _=>rfl,fun _ _ _=>rfl,fun _ _=>rfl,fun _ _=>Nat.le_refl _,fun _ _ h=>absurd rfl h⟩
section
variable {n:Nat} {h:Nat→Nat} {H:Nat} {up rep:Nat→Nat}
theorem UF.le(u:UF n h H up rep){i:Nat}(hi:i<n):h i≤h (up i):=by
 by_cases e:up i=i
 ·rw[e];exact Nat.le_refl _
 ·exact Nat.le_of_lt (u.grow i hi e)
theorem UF.Rk(u:UF n h H up rep){i:Nat}(hi:i<n):rep (rep i)=rep i:=u.root _ (u.H9 i hi) (u.top i hi)
theorem UF.half(u:UF n h H up rep){k:Nat}(hk:k<n):UF n h H (kG up k (up (up k))) rep:=by
 have h1:=u.lt k hk
 have h2:=u.lt _ h1
 refine⟨fun i hi=>?_,u.H9,fun i hi=>?_,fun i hi e=>?_,fun i hi=>?_,u.bound,fun i hi e=>?_⟩
 all_goals by_cases hik:i=k
 ·subst hik;rw[gu];exact h2
 ·rw[kH _ _ hik];exact u.lt i hi
 ·subst hik;rw[gu,u.step _ h1,u.step _ hi]
 ·rw[kH _ _ hik];exact u.step i hi
 ·subst hik
  rw[gu] at e
  by_cases e2:up i=i
  ·exact u.root i hi e2
  ·have a:=u.grow i hi e2
   have b:=u.le h1
   rw[e] at b;omega
 ·rw[kH _ _ hik] at e;exact u.root i hi e
 ·by_cases e:rep i=k
  ·rw[e,gu]
   have:=u.top i hi
   rw[e] at this
   rw[this,this]
  ·rw[kH _ _ e];exact u.top i hi
 ·by_cases e:rep i=k
  ·rw[e,gu]
   have:=u.top i hi
   rw[e] at this
   rw[this,this]
  ·rw[kH _ _ e];exact u.top i hi
 ·subst hik
  rw[gu] at e ⊢
  by_cases e2:up i=i
  ·rw[e2,e2] at e;exact absurd rfl e
  ·have a:=u.grow i hi e2
   have b:=u.le h1
   omega
 ·rw[kH _ _ hik] at e ⊢;exact u.grow i hi e
theorem UF.join(u:UF n h H up rep){a b:Nat}(ha:a<n)(hb:b<n)(hra:up a=a)(hrb:up b=b)(hab:a≠b):UF n (fun x=>if rep x=a then h x+H+1 else h x) (H+H+1) (kG up b a) (fun x=>if rep x=b then a else rep x):=by
 have ra:=u.root a ha hra
 have rb:=u.root b hb hrb
 have hup:∀ i,i≠b→kG up b a i=up i:=fun i hi=>kH _ _ hi
 refine⟨fun i hi=>?_,fun i hi=>?_,fun i hi=>?_,fun i hi e=>?_,fun i hi=>?_,fun i hi=>?_,fun i hi e=>?_⟩
 ·by_cases e:i=b
  ·subst e;rw[gu];exact ha
  ·rw[hup i e];exact u.lt i hi
 ·split
  ·exact ha
  ·exact u.H9 i hi
 ·try dsimp only
  by_cases e:i=b
  ·subst e;rw[gu,ra,rb,if_neg hab,if_pos rfl]
  ·rw[hup i e,u.step i hi]
 ·try dsimp only
  by_cases e2:i=b
  ·subst e2;rw[gu] at e;exact absurd e hab
  ·rw[hup i e2] at e
   have:=u.root i hi e
   rw[this,if_neg e2]
 ·try dsimp only
  by_cases e:rep i=b
  ·rw[if_pos e,hup a hab];exact hra
  ·rw[if_neg e,hup _ e];exact u.top i hi
 ·try dsimp only
  have:=u.bound i hi
  split <;> omega
 ·try dsimp only
  have hbd:=u.bound i hi
  by_cases e2:i=b
  ·subst e2
   rw[gu,ra,rb,if_neg (fun e=>hab e.symm),if_pos rfl];omega
  ·rw[hup i e2] at e ⊢
   have:=u.grow i hi e
   rw[u.step i hi]
   split <;> omega
end
end
section
open Go.RowKit Go.Shelf
attribute [local go_sem] Oper.semAt_some
def Tab(w:World):Prop:=∀ j,j<64→w.cell? ⟨1,j,none⟩=some (.int .u8 (Lib.deBruijn64tab.getD j 0))
theorem Tab.block{w:World}(h:Tab w):∃ o,w.heap[1]?=some o∧o.isCells=true:=cells_of_cell (h 0 (by decide))
theorem Tab.GN{X:Nat→Prop}{w w':World}(h:Tab w)(hx:¬ X 1)(hk:aX X w w'):Tab w':=fun j hj=>hk.cell hx (h j hj)
theorem Tab.kept{w w':World}(h:Tab w)(hb:Below w.heap.size w w'):Tab w':=h.GN (X:=fun _=>False) id (aX.below hb)
theorem Tab.pos{w:World}(h:Tab w):1<w.heap.size:=by obtain⟨o,ho,_⟩:=h.block;exact(Array.getElem?_eq_some_iff.1 ho).1
theorem ahK(x a:Nat)(hx:x<18446744073709551616)(hx0:x≠0)(hlow:x &&& (18446744073709551616 - x)=a) :
  IntKind.u64.wrap (bits BinOp.and IntKind.u64 (x:Int) (IntKind.u64.wrap (-(x:Int)))*285870213051353865) / 288230376151711744=((a*285870213051353865 % 18446744073709551616 / 288230376151711744:Nat):Int):=by
 have e1:IntKind.u64.wrap (-(x:Int))=((18446744073709551616 - x:Nat):Int):=by rw[IntKind.wrap_u64];omega
 rw[e1,bits_and_u64_nat x _ hx (by omega),hlow,IntKind.wrap_u64]
 omega
theorem tz64_core(x k idx:Nat)(w:World)(hx0:((x:Int)==0)=false)
  (key:IntKind.u64.wrap (bits BinOp.and IntKind.u64 (x:Int) (IntKind.u64.wrap (-(x:Int)))*285870213051353865) / 288230376151711744=(idx:Int))
  (hi:idx<64) (hcell:w.cell? ⟨1,idx,none⟩=some (.int .u8 k)) (hk:k<64) :
  Calls Tryz.prog 205 #[.int .u64 x] w fun e w'=>e=.returned (.int .i64 k)∧w'=w:=by
 go_enter Tryz.func205,Tryz.ntmps205
 go_wp2_with (simp only[key])
 go_ret
 exact⟨rfl,rfl⟩
theorem ahL(x:Nat)(h0:x≠0)(hx:x<18446744073709551616)(w:World)(hT:Tab w) :
  Calls Tryz.prog 205 #[.int .u64 x] w fun e w'=>e=.returned (.int .i64 (Lib.ctz 64 x:Nat))∧w'=w:=by
 obtain⟨hlow,hk⟩:=Lib.lowest_bit 64 x h0 hx
 obtain⟨hi,htab⟩:=Lib.deBruijn64_at _ hk
 have hcell:=hT _ hi
 rw[htab] at hcell
 exact tz64_core x _ _ w (by simp;omega) (ahK x _ hx h0 hlow) hi hcell hk
abbrev Rl(x:Nat):Array Value:=#[.int .u8 x]
def agP(X:Nat→Prop)(J:List Nat→World→Prop)(s:aF)(W wr:World)(i:Value):Prop :=
 ∃ j pre,j≤4∧i=.int .i64 (j:Nat)∧pre++zh s j (4 - j)=elems s∧J pre wr∧aX X W wr
def adf(X:Nat→Prop)(J:List Nat→World→Prop)(s:aF)(j:Nat)(W wr:World)(v:Value):Prop :=
 ∃ u pre:_,u<18446744073709551616∧v=.int .u64 (u:Nat)∧pre++(kN j u++zh s (j+1) (3 - j))=elems s∧J pre wr∧aX X W wr
theorem Rn(u:Nat)(h0:u≠0)(h:u<18446744073709551616):bits BinOp.and IntKind.u64 (u:Int) ((u:Int) - 1)=((u &&& (u - 1):Nat):Int):=by
 rw[show((u:Int) - 1)=((u - 1:Nat):Int) by omega,bits_and_u64_nat u _ h (by omega)]
set_option maxRecDepth 100000 in
theorem adg(n l Bs:Nat)(X:Nat→Prop)(Ro:¬ X 1)(J Jx:List Nat→World→Prop)(s:aF)
  (hY:∀ pre x W,J pre W→pre.length<(elems s).length→x<256→YieldAt Fence.wide (n - 1) Tryz.prog l (Rl x) W fun e W'=>(e=.returned (.bool true)∧J (pre++[x]) W'∧aX X W W')∨(e=.returned (.bool false)∧Jx (pre++[x]) W'))
  (W:World) (hT:Tab W) (hBs:Box W Bs (dZ s) 113) (h0:J [] W) :
  CallsIn Fence.wide n Tryz.prog 204 #[.func (.yield l) #[] #[],.pointer (some ⟨Bs,0,none⟩)] W fun e W'=>(∃ v,e=.returned v)∧((∃ ys,ys=elems s∧J ys W')∨(∃ pre,pre <+: elems s∧Jx pre W')):=by
 obtain⟨c0,c1,c2,c3⟩:=hBs.uy
 refine callsIn_of_wp Tryz.func204 rfl trivial ?_ rfl
 simp only[Tryz.ntmps204,List.size_toArray,List.length_cons,List.length_nil,Nat.reduceAdd,Nat.reduceSub,Array.replicate_succ,Array.replicate_zero,List.push_toArray,List.append_toArray,List.nil_append,List.cons_append]
 gi_wp2
 gi_loopw [6] (fun i wr=>agP X J s W wr i) (fun i _=>4 - (intOf i).toNat)
 case atStart=>exact⟨0,[],by omega,rfl,by rw[List.nil_append];exact(Hr s).symm,h0,aX.refl _ _⟩
 case round =>
  obtain⟨j,pre,hj,rfl,he,wC,hkr⟩:=hrel
  by_cases hlt:j<4
  ·have gw:=E5 s j hlt
   have hdj:decide ((j:Int)<4)=true:=decide_eq_true (by omega)
   rw[show 4 - j=(3 - j)+1 by omega,zh] at he
   have hu:=word_lt s j
   generalize word s j=u0 at *
   gi_wp2
   gi_loopw [4] (fun v wr=>adf X J s j W wr v) (fun v _=>(intOf v).toNat)
   case atStart=>exact⟨_,pre,hu,rfl,he,wC,hkr⟩
   case round =>
    obtain⟨u,pre,hu,rfl,he,wC,hkr⟩:=hrel
    by_cases hz:u=0
    ·subst hz
     rw[kN,Hq,List.map_nil,List.nil_append] at he
     gi_wp2
     exact⟨⟨j+1,pre,hlt,by simp,by rw[show 4 - (j+1)=3 - j by omega];exact he,wC,hkr⟩,by simp[intOf];omega⟩
    ·have hne:((u:Int) != 0)=true:=by simp;omega
     obtain⟨hls,hk,hdec⟩:=QE u hz hu
     have hand:=Rn u hz hu
     have zM:kN j u=(64*j+Lib.ctz 64 u)::kN j (u &&& (u - 1)):=by rw[kN,hls];rfl
     have hl:pre.length<(elems s).length:=by
      rw[←he,kN,hls];simp
     have Fp:=hY pre (64*j+Lib.ctz 64 u) wr wC hl (by omega)
     rw[show Rl (64*j+Lib.ctz 64 u)=#[.int .u8 ((j:Int)*64+(Lib.ctz 64 u:Nat))] by simp only[Rl];rw[show((64*j+Lib.ctz 64 u:Nat):Int)=(j:Int)*64+(Lib.ctz 64 u:Nat) by omega]] at Fp
     obtain⟨fn,tmps,assign,body,hy,hR⟩:=Fp
     have HT:=ah (hT.GN Ro hkr)
     have TZ:=fun w hT=>ahL u hz hu w hT
     generalize Lib.ctz 64 u=k at *
     have hdd:∀ k:Nat,(Fence.wide.depth.isSome=true→1≤k):=fun k h=>by cases h
     gi_wp2_with (first | (refine⟨trivial,hdd _,?_⟩;gi_at_call 205;go_must (refine(callsIn_wide.2 (TZ _ HT.out)).mono ?_;rintro e w1 ⟨rfl,rfl⟩)) | (refine⟨hdd _,?_⟩;refine hR.mono ?_;clear hR;rintro e W2 (⟨rfl,hJ2,hk2⟩ | ⟨rfl,hx2⟩)))
     ·refine⟨⟨u &&& (u - 1),pre++[64*j+k],by omega,rfl,?_,hJ2,hkr.trans hk2⟩,by simp[intOf];omega⟩
      rw[←he,zM];simp
     ·refine bodyPost_ret (results_none rfl _ _ _) rfl ?_
      refine⟨⟨_,rfl⟩,.inr ⟨_,?_,hx2⟩⟩
      rw[←he,zM]
      exact⟨kN j (u &&& (u - 1))++zh s (j+1) (3 - j),by simp⟩
  ·obtain rfl:j=4:=by omega
   rw[show zh s 4 (4 - 4)=[] from rfl,List.append_nil] at he
   subst he
   gi_wp2
   go_end0
   exact⟨⟨_,rfl⟩,.inl ⟨_,rfl,wC⟩⟩
theorem X3(n Bs:Nat)(X:Nat→Prop)(s:aF)(w:World)(Ro:¬ X 1)(hT:Tab w)(hBs:Box w Bs (dZ s) 113) :
  SeqStopsK Fence.wide n Tryz.prog 204 #[.pointer (some ⟨Bs,0,none⟩)] Rl (aX X) (fun ys=>ys=elems s) (fun pre=>pre <+: elems s) (elems s).length w:=fun l J Jx W hW _ _ hY h0 =>
 adg n l Bs X Ro J Jx s (fun pre x W hj hl _=>hY pre x W hj hl) W (hT.kept hW) (hBs.kept hW) h0
theorem agQ(s:aF)(w:World):Calls Tryz.prog 162 #[.agg (dZ s)] w fun e w'=>e=.returned (.func (.func 204) #[] #[.pointer (some ⟨w.heap.size,0,none⟩)])∧w'=w.alloc (.cells (dZ s) 113):=by
 go_enter Tryz.func162,Tryz.ntmps162
 go_wp2
 go_ret
 exact⟨rfl,rfl⟩
end
section
open Go.RowKit Go.Shelf
attribute [local go_sem] Oper.semAt_some
end
section
open Go.RowKit Go.Shelf
attribute [local go_sem] Oper.semAt_some
end
section
open Go.RowKit
end
section
open Go.RowKit
end
section
open Go.RowKit
def ends(s:aF)(j:Nat):Bool:=decide (j=255)||!mem s (j+1)
end
section
open Go.RowKit Go.Shelf
attribute [local go_sem] Oper.semAt_some
abbrev Fq(x:Nat):Array Value:=#[.int .i64 x]
def alh(X:Nat→Prop)(J:List Nat→World→Prop)(N m S:Nat)(W wr:World)(i:Value):Prop :=
 ∃ j pre,j≤m∧i=.int .i64 (j:Nat)∧pre++xw S j (m - j)=iG N S∧J pre wr∧aX X W wr
def ahM(X:Nat→Prop)(J:List Nat→World→Prop)(N m S j:Nat)(W wr:World)(v:Value):Prop :=
 ∃ u pre:_,u<18446744073709551616∧v=.int .u64 (u:Nat)∧pre++(kN j u++xw S (j+1) (m - j - 1))=iG N S∧J pre wr∧aX X W wr
set_option maxRecDepth 100000 in
theorem Rq(n l Bq p g N S:Nat)(X:Nat→Prop)(Ro:¬ X 1)(hgX:¬ X g)(J Jx:List Nat→World→Prop)(hN:N≤1048576)
  (hY:∀ pre x W,J pre W→pre.length<(iG N S).length→YieldAt Fence.wide (n - 1) Tryz.prog l (Fq x) W fun e W'=>(e=.returned (.bool true)∧J (pre++[x]) W'∧aX X W W')∨(e=.returned (.bool false)∧Jx (pre++[x]) W'))
  (W:World) (hT:Tab W) (hq:Box W Bq #[.pointer (some ⟨p,0,none⟩)] 315) (hB:gG W p g N S) (h0:J [] W) :
  CallsIn Fence.wide n Tryz.prog 297 #[.func (.yield l) #[] #[],.pointer (some ⟨Bq,0,none⟩)] W fun e W'=>(∃ v,e=.returned v)∧((∃ ys,ys=iG N S∧J ys W')∨(∃ pre,pre <+: iG N S∧Jx pre W')):=by
 have c0:W.cell? ⟨Bq,0,none⟩=some (.pointer (some ⟨p,0,none⟩)):=hq.cell 0
 have x1:W.cell? ⟨p,1,none⟩=some (.slice (some ⟨g,0,none⟩) (dH N) (dH N)):=hB.box.cell 1
 have hwd:=hB.words
 have hel:=XJ N (dH N) S (by unfold dH;omega) hB.lt
 have hm:dH N≤16384:=by unfold dH;omega
 generalize dH N=m at *
 have HWD:=ah hwd;have HEL:=ah hel
 clear hwd hB hq hel
 refine callsIn_of_wp Tryz.func297 rfl trivial ?_ rfl
 simp only[Tryz.ntmps297,List.size_toArray,List.length_cons,List.length_nil,Nat.reduceAdd,Nat.reduceSub,Array.replicate_succ,Array.replicate_zero,List.push_toArray,List.append_toArray,List.nil_append,List.cons_append]
 gi_wp2
 gi_loopw [12] (fun i wr=>alh X J N m S W wr i) (fun i _=>m - (intOf i).toNat)
 case atStart=>exact⟨0,[],by omega,rfl,by rw[List.nil_append];exact HEL.out.symm,h0,aX.refl _ _⟩
 case round =>
  obtain⟨j,pre,hj,rfl,he,wC,hkr⟩:=hrel
  by_cases hlt:j<m
  ·have hbx:=hkr.box hgX HWD.out
   have gw:wr.cell? ⟨g,j,none⟩=some (.int .u64 (fA S j:Nat)):=(hbx.cell _).trans (pq _ _ _ hlt)
   have hbl:=hbx.lt
   have hdj:decide ((j:Int)<(m:Int))=true:=decide_eq_true (by omega)
   rw[show m - j=(m - j - 1)+1 by omega,xw] at he
   have hu:=DR S j
   generalize fA S j=u0 at *
   clear hbx
   gi_wp2
   gi_loopw [4] (fun v wr=>ahM X J N m S j W wr v) (fun v _=>(intOf v).toNat)
   case atStart=>exact⟨_,pre,hu,rfl,he,wC,hkr⟩
   case round =>
    clear gw hbl
    obtain⟨u,pre,hu,rfl,he,wC,hkr⟩:=hrel
    by_cases hz:u=0
    ·subst hz
     rw[kN,Hq,List.map_nil,List.nil_append] at he
     gi_wp2
     exact⟨⟨j+1,pre,hlt,by simp,by rw[show m - (j+1)=m - j - 1 by omega];exact he,wC,hkr⟩,by simp[intOf];omega⟩
    ·have hne:((u:Int) != 0)=true:=by simp;omega
     obtain⟨hls,hk,hdec⟩:=QE u hz hu
     have hand:=Rn u hz hu
     have zM:kN j u=(64*j+Lib.ctz 64 u)::kN j (u &&& (u - 1)):=by rw[kN,hls];rfl
     have hl:pre.length<(iG N S).length:=by
      rw[←he,kN,hls];simp
     have Fp:=hY pre (64*j+Lib.ctz 64 u) wr wC hl
     rw[show Fq (64*j+Lib.ctz 64 u)=#[.int .i64 ((j:Int)*64+(Lib.ctz 64 u:Nat))] by simp only[Fq];rw[show((64*j+Lib.ctz 64 u:Nat):Int)=(j:Int)*64+(Lib.ctz 64 u:Nat) by omega]] at Fp
     obtain⟨fn,tmps,assign,body,hy,hR⟩:=Fp
     have HT:=ah (hT.GN Ro hkr)
     have TZ:=fun w hT=>ahL u hz hu w hT
     generalize Lib.ctz 64 u=k at *
     have hdd:∀ k:Nat,(Fence.wide.depth.isSome=true→1≤k):=fun k h=>by cases h
     gi_wp2_with (first | (refine⟨trivial,hdd _,?_⟩;gi_at_call 205;go_must (refine(callsIn_wide.2 (TZ _ HT.out)).mono ?_;rintro e w1 ⟨rfl,rfl⟩)) | (refine⟨hdd _,?_⟩;refine hR.mono ?_;clear hR;rintro e W2 (⟨rfl,hJ2,hk2⟩ | ⟨rfl,hx2⟩)))
     ·refine⟨⟨u &&& (u - 1),pre++[64*j+k],by omega,rfl,?_,hJ2,hkr.trans hk2⟩,by simp[intOf];omega⟩
      rw[←he,zM];simp
     ·refine bodyPost_ret (results_none rfl _ _ _) rfl ?_
      refine⟨⟨_,rfl⟩,.inr ⟨_,?_,hx2⟩⟩
      rw[←he,zM]
      exact⟨kN j (u &&& (u - 1))++xw S (j+1) (m - j - 1),by simp⟩
  ·obtain rfl:j=m:=by omega
   rw[Nat.sub_self,show xw S j 0=[] from rfl,List.append_nil] at he
   subst he
   gi_wp2
   go_end0
   exact⟨⟨_,rfl⟩,.inl ⟨_,rfl,wC⟩⟩
theorem Nq(n Bq p g N S:Nat)(X:Nat→Prop)(w:World)(hN:N≤1048576)(Ro:¬ X 1)(hgX:¬ X g)(hT:Tab w)(hq:Box w Bq #[.pointer (some ⟨p,0,none⟩)] 315)(hB:gG w p g N S) :
  SeqStopsK Fence.wide n Tryz.prog 297 #[.pointer (some ⟨Bq,0,none⟩)] Fq (aX X) (fun ys=>ys=iG N S) (fun pre=>pre <+: iG N S) (iG N S).length w:=fun l J Jx W hW _ _ hY h0 =>
 Rq n l Bq p g N S X Ro hgX J Jx hN (fun pre x W hj hl=>hY pre x W hj hl) W (hT.kept hW) (hq.kept hW) (hB.kept hW) h0
theorem U8(a:Option Addr)(w:World):Calls Tryz.prog 283 #[.pointer a] w fun e w'=>e=.returned (.func (.func 297) #[] #[.pointer (some ⟨w.heap.size,0,none⟩)])∧w'=w.alloc (.cells #[.pointer a] 315):=by
 go_enter Tryz.func283,Tryz.ntmps283
 go_wp2
 go_ret
 exact⟨rfl,rfl⟩
end
section
open Go.RowKit Go.Shelf
attribute [local go_sem] Oper.semAt_some
def ahP(b:Nat)(w:World)(pre:List Nat)(W:World):Prop:=Box W (b+1) #[.int .i64 0] 3∧pre=[]∧Below b w W
def ahQ(b:Nat)(w:World)(c:Code)(pre:List Nat)(W:World):Prop:=c=.ret∧∃ x:Nat,pre=[x]∧Box W (b+1) #[.int .i64 (wrap64 x)] 3∧Below b w W
set_option maxRecDepth 100000 in
theorem X4(s:aF)(w:World)(hT:Tab w):Calls Tryz.prog 115 #[.agg (dZ s)] w (bF w (.int .i64 (leastOf s))):=by
 have hle:=PY s
 have hlt:=fun x=>@acI s x
 have hN:=agQ s
 refine(callsIn_wide (n:=6)).1 ?_
 refine callsIn_of_wp_marks Tryz.func115 rfl trivial ?_ rfl
 simp only[Tryz.ntmps115,List.size_toArray,List.length_cons,List.length_nil,Nat.reduceAdd,Nat.reduceSub,Array.replicate_succ,Array.replicate_zero,List.push_toArray,List.append_toArray,List.nil_append,List.cons_append]
 gi_wp2_with (refine⟨trivial,?_⟩;gi_at_call 162;refine(callsIn_wide.2 (hN _)).mono ?_;rintro e w' ⟨rfl,rfl⟩)
 obtain⟨W0,hW0⟩:∃ W0,(((w.alloc (.cells (dZ s) 113)).alloc (.cells #[.int .i64 0] 3)).alloc (.cells (dZ s) 113))=W0:=⟨_,rfl⟩
 have hB0:Below w.heap.size w W0:=by rw[←hW0];go_grown
 have hsz0:W0.heap.size=w.heap.size+1+1+1:=by rw[←hW0];simp
 have hbt:Box W0 (w.heap.size+1+1) (dZ s) 113:=by rw[←hW0];exact Box.new' (by simp) _ _
 have hn0:Box W0 (w.heap.size+1) #[.int .i64 0] 3:=by rw[←hW0];exact(Box.new' (by simp) _ _).alloc _
 rw[hW0]
 clear hW0
 have hpos:=hT.pos
 have hst:=X3 5 (w.heap.size+1+1) (fun b=>b=w.heap.size+1) s W0 (by omega) (hT.kept hB0) hbt
 refine wpIn_rangeFunc_ownF rfl (by decide) (gf:=204) (lb:=#[.pointer (some ⟨w.heap.size+1+1,0,none⟩)]) rfl trivial (enters_of Tryz.func204 (by kernel_rfl) rfl)
  hst (fun h k=>h.trans k) GK (Below.refl _ _) (fun _=>rfl)
  (ahP w.heap.size w) (ahQ w.heap.size w)
  (OwnFrom.and (iO _ _ _ _) (OwnFrom.and (fun _ _ _ _ h _ _=>h) (ownFrom_below (Nat.le_refl _) (by omega))))
  (fun _=>fun pre W W' row ⟨h1,x,h2,h3,h4⟩ hg hr=>⟨h1,x,h2,iO _ _ _ (fun _:Unit=>#[.int .i64 (wrap64 x)]) () W W' row h3 hg hr,ownFrom_below (β:=Unit) (Nat.le_refl _) (by omega) () W W' row h4 hg hr⟩) ⟨hn0,rfl,hB0⟩
  (fun x=>{ tmps:=#[.agg (dZ s),.pointer (some ⟨w.heap.size,0,none⟩),.pointer (some ⟨w.heap.size+1,0,none⟩),.int .u8 (x:Nat),.agg (dZ s),.func (.func 204) #[] #[.pointer (some ⟨w.heap.size+1+1,0,none⟩)],.int .u8 (x:Nat),undef,undef],defers:=[] }) ?assign ?body ?done ?stop
 case assign =>
  intro l x W K hK
  dsimp only[Rl]
  go_simp
  gi_wp2
  exact hK
 case body =>
  rintro l pre x W ⟨hb,rfl,hB⟩ hlt
  have c0:=hb.cell 0
  have f0:=hb.free 0
  gi_wp2
  exact⟨KeepsOthers.setCell _ _ _,rfl,x,rfl,hb.set 0 _,hB.setCell (by simp) _⟩
 case done =>
  rintro D ys W hD rfl ⟨hb,hys,hB⟩ hK
  have c0:=hb.cell 0
  have f0:=hb.free 0
  rw[hys] at hle
  gi_wp2
  have hK':=(KeepsOthers.setCell W ⟨w.heap.size+1,0,none⟩ (.int .i64 (-1))).same D _ hK rfl
  refine⟨by simp,.inl ⟨_,_,rfl,run_takeDeferred hK',?_⟩⟩
  have hc5:=(iO W0.heap.size (w.heap.size+1) 3 (fun _:Unit=>#[.int .i64 (-1)]) () _ _ (some D) (hb.set 0 (.int .i64 (-1))) (grownBy_putObj' _ D (.deferred none)) (fun r e=>by cases e;exact⟨by omega,_,hK',rfl⟩)).cell 0
  refine⟨.int .i64 (-1),?_,rfl,(hB.setCell (p:=⟨w.heap.size+1,0,none⟩) (by simp) _).trans (belowK_b (w:=w) (Nat.le_refl _) _ D _ _ (by omega) hK' rfl rfl)⟩
  simp[results,Tryz.f115,go_sem,hc5]
 case stop =>
  rintro D c pre W hD hpre ⟨rfl,x,rfl,hb,hB⟩ hK
  obtain⟨r,hr⟩:=hpre
  have hx:=hlt x (by rw[←hr];simp)
  have hw:wrap64 (x:Int)=(x:Nat):=by unfold wrap64;omega
  rw[hw] at hb
  rw[←hr] at hle
  gi_wp2
  refine⟨by simp,.inl ⟨_,_,rfl,run_takeDeferred hK,?_⟩⟩
  have hc5:=(iO W0.heap.size (w.heap.size+1) 3 (fun _:Unit=>#[.int .i64 (x:Nat)]) () _ _ (some D) hb (grownBy_putObj' _ D (.deferred none)) (fun r e=>by cases e;exact⟨by omega,_,hK,rfl⟩)).cell 0
  refine⟨.int .i64 (x:Nat),?_,by rw[hle];rfl,hB.trans (belowK_b (w:=w) (Nat.le_refl _) W D _ _ (by omega) hK rfl rfl)⟩
  simp[results,Tryz.f115,go_sem,hc5]
end
section
open Go.RowKit
theorem Jj:dI Tryz.prog 35 5 (.int .u8 0) 1 1:=⟨Tryz.underlying35,info_parts (by kernel_rfl),rfl,by decide⟩
theorem Oz{R:Nat→Nat→Bool}(E:su R)(k:Nat)(hk:k<(kV R 256).length)(hk2:k<(aC R 256).length):leastOf (kV R 256)[k]=((aC R 256)[k]:Nat):=by
 simp only[kV,List.getElem_map]
 exact Ol E (Nat.le_refl _) (List.getElem_mem hk2)
theorem zN(f:Nat→Nat)(w:World)(hT:Tab w) :
  Calls Tryz.prog 70 #[.agg (aG f)] w (fV w 5 1 dY (aC (aH (aY f)) 256)):=by
 have hE:=gY (aY f)
 have hS:=XT f
 have hl:=lu (aH (aY f)) 256
 have hat:=Oz hE
 have hlt:=fun x=>jQ (aH (aY f)) 256 x
 have hm:=gU (aH (aY f)) 256
 have hw:=jK (aH (aY f))
 rw[hw] at hl
 generalize kV (aH (aY f)) 256=L at *
 generalize aC (aH (aY f)) 256=xs at *
 obtain⟨m,hxm⟩:∃ m,xs.length=m:=⟨_,rfl⟩
 rw[hxm] at hl hm
 have HS:=ah hS
 have HL:=ah hl
 have HA:=ah hat
 have HX:=ah hlt
 have HM:=ah hxm
 have HT:=ah hT
 clear hE hS hl hat hlt hw hxm hT
 go_enter Tryz.func70,Tryz.ntmps70
 go_wp2_with (first | (refine wpList_load_row rfl 22 (.tmp 1) rfl _ rfl _ _ _ _ (Box.new _ _ _) Tryz.underlying22 rfl (aK _) ?_) | (go_at_call 114;go_must (refine(HS.out _).mono ?_;intro e w1 h1;obtain⟨a1,cap1,rfl,o1,hb1⟩:=h1;rw[HL.out] at o1 ⊢)))
 have hB1:Below w.heap.size w w1:=(aj w _).trans (hb1.mono (by simp))
 have hT1:=HT.out.kept hB1
 have hs1:=o1.slice nC
 obtain⟨b,o,hlen,hcap,hcap',ha,hbl,hcell⟩:=au.sets hs1
 have HC:=ah hcell
 have HA1:=ah ha
 have HT1:=ah hT1
 have hsz:=hB1.size
 clear hcell ha hlen hs1 o1 hb1 hT1 hbl
 go_loopw [3,9] (fun v i wr=>∃ (k:Nat) (a:Option Addr) (cap:Nat),k≤m∧i=.int .i64 k∧v=.slice a k cap∧Own wr w1.heap.size 5 1 dY (.slice a k cap) (xs.take k)∧Below w1.heap.size w1 wr) (fun _ i _=>m - (intOf i).toNat)
 case atStart=>exact⟨0,none,0,Nat.zero_le _,rfl,rfl,Own.nil _ _ _ _ _,Below.refl _ _⟩
 case round =>
  obtain⟨k,a,cap,hk,rfl,rfl,hown,hB⟩:=hrel
  by_cases hlt:k<m
  ·have hk2:k<L.length:=by rw[HL.out];exact hlt
   have hk3:k<xs.length:=by rw[HM.out];exact hlt
   have hl1:=HA.out k hk2 hk3
   have hx:=HX.out _ (List.getElem_mem hk3)
   obtain rfl:=HA1.out k hk2
   obtain⟨c0,c1,c2,c3⟩:=HC.out k hk2 wr hB
   have htk:xs.take (k+1)=xs.take k++[xs[k]]:=List.take_succ_eq_append_getElem hk3
   have hln:(xs.take k).length=k:=by rw[List.length_take];omega
   have hle:=fun w hT=>X4 L[k] w hT
   rw[hl1] at hle
   generalize xs[k]=x at *
   generalize xs.take k=ys at *
   generalize L[k]=s at *
   have KA:=ah hle
   have AX:=ah htk
   have oU:=ah hln
   have an4:ys.length≤256:=by omega
   have ZP:IntKind.u8.wrap (x:Int)=(x:Int):=kM x hx
   clear hl1 htk hln hle
   have hk0:(0:Int)≤(k:Int):=by omega
   have hkm:(k:Int)<(m:Int):=by omega
   go_wp2_with (first | (go_at_call 115;go_must (refine(KA.out _ (HT1.out.kept (hB.alloc hB.size _))).mono ?_;rintro e w5 ⟨rfl,hb5⟩;have hown5:=(hown.alloc (.cells (dZ s) 113)).kept hb5)) | (at_builtin;go_must (refine dK rfl _ _ 35 rfl Jj zA rfl (hown5.alloc _) ⟨w5.heap.size,0,none⟩ 1 x rfl (bW w5 [.int .u8 (x:Nat)] _) (by simp[maxLen];omega) (by omega) (by have:=hb5.size;have:=hB.size;simp at *;omega) ?_;intro a' cap' W' hown' hg)))
   rw[oU.out] at hown' ⊢
   go_roundw
   case rel =>
    refine⟨k+1,a',cap',hlt,by go_num,rfl,by rw[AX.out];exact hown',?_⟩
    have h6:=(hB.alloc hB.size (.cells (dZ s) 113)).trans (hb5.mono (by have:=hB.size;simp;omega))
    have h7:=h6.alloc h6.size (.cells #[.int .u8 (x:Nat)] 5)
    exact below_grown h7 (hown5.alloc _) hg (Nat.le_refl _) h7.size
   case measure=>simp[intOf];omega
  ·obtain rfl:k=m:=by omega
   have htk:xs.take k=xs:=List.take_of_length_le (by rw[HM.out];omega)
   go_wp2
   go_ret
   rw[htk] at hown
   exact⟨a,cap,by rw[HM.out];rfl,by rw[HM.out];exact hown.mono hsz,hB1.trans (hB.mono hsz)⟩
end
section
open Go.RowKit Go.Shelf
attribute [local go_sem] Oper.semAt_some
mutual
def jD:Vt→List Vt
 | .mk k s a cap kids lo hi=>.mk k s a cap kids lo hi::iI kids
def iI:List Vt→List Vt
 | []=>[]
 | a::l=>jD a++iI l
end
theorem Fv(l m:List Vt):iI (l++m)=iI l++iI m:=by
 induction l with
 | nil=>simp[iI]
 | cons a l ih=>simp[iI,ih]
theorem X5(l:List Vt)(j:Nat)(h:j<l.length):iI (l.take (j+1))=iI (l.take j)++jD l[j]:=by
 rw[List.take_succ_eq_append_getElem h,Fv];simp[iI]
theorem U9(l:List Vt)(j:Nat)(h:j<l.length):iI l=iI (l.take j)++(jD l[j]++iI (l.drop (j+1))):=by
 have:l=l.take j++(l[j]::l.drop (j+1)):=by simp
 have e:=congrArg iI this
 rw[Fv] at e
 simpa [iI] using e
theorem adh:∀ V:Vt,(jD V).length=sizeT V.tr:=by
 refine Vt.ind fun k s a cap kids lo hi ih=>?_
 rw[Vt.jU]
 have key:∀ l:List Vt,(∀ i (h:i<l.length),(jD l[i]).length=sizeT (Vt.tr l[i]))→(iI l).length=pR (l.map Vt.tr):=by
  intro l
  induction l with
  | nil=>intro _;rfl
  | cons a l ihl =>
   intro h
   have h0:=h 0 (by simp)
   have h1:=ihl fun i hi=>h (i+1) (Nat.succ_lt_succ hi)
   simp only[List.getElem_cons_zero] at h0
   simp[iI,pR,h0,h1]
 simp[jD,sizeT,key kids ih];omega
theorem Lies.GN{X:Nat→Prop}{w w':World}{V:Vt}(h:Lies w V)(ho:On (fun b=>¬ X b) V)(hk:aX X w w'):Lies w' V:=by
 induction h with
 | mk k s a cap kids lo hi h1 h2 h3 hs _ ih =>
  cases ho with
  | mk _ _ _ _ _ _ _ g1 g2=>exact .mk k s a cap kids lo hi h1 h2 h3 (hk.slice hs g1) fun i hi=>ih i hi (g2 i hi)
theorem On.open{S:Nat→Prop}{k:Int}{s:aF}{a:Option Addr}{cap:Nat}{kids:List Vt}{lo hi:Int}(h:On S (.mk k s a cap kids lo hi)):(0<kids.length→∀ ad,a=some ad→S ad.block)∧∀ i (h:i<kids.length),On S kids[i]:=by
 cases h with
 | mk _ _ _ _ _ _ _ g1 g2=>exact⟨g1,g2⟩
abbrev Qm(x:Vt):Array Value:=#[.agg x.cells.toArray]
def Jk(X:Nat→Prop)(J Jx:List Vt→World→Prop)(pre q:List Vt)(W:World)(e:Ending)(W':World):Prop :=
 (e=.returned (.bool true)∧J (pre++q) W'∧aX X W W')∨(e=.returned (.bool false)∧∃ r,r <+: q∧Jx (pre++r) W')
def agR(X:Nat→Prop)(J:List Vt→World→Prop)(kids:List Vt)(pre:List Vt)(W wr:World)(i:Value):Prop :=
 ∃ j:Nat,j≤kids.length∧i=.int .i64 j∧J (pre++iI (kids.take j)) wr∧aX X W wr
set_option maxRecDepth 100000 in
theorem Nr(F:Fence)(hd:F.depth=none)(hF:F.fn 187)(hro:F.round=none)(l N Bx:Nat)(X:Nat→Prop)(hX:∀ b,X b→b<Bx)(J Jx:List Vt→World→Prop)(hJ:AbidesFrom Bx J)
  (hY:∀ m pre x W,J pre W→pre.length<N→YieldAt F m Tryz.prog l (Qm x) W fun e W'=>(e=.returned (.bool true)∧J (pre++[x]) W'∧aX X W W')∨(e=.returned (.bool false)∧Jx (pre++[x]) W')) :
  ∀ (V:Vt) (n:Nat) (pre:List Vt) (W:World),Lies W V→On (fun b=>¬ X b) V→Bx≤W.heap.size→J pre W→pre.length+(jD V).length≤N →
   CallsIn F n Tryz.prog 187 #[.agg V.cells.toArray,.func (.yield l) #[] #[]] W (Jk X J Jx pre (jD V) W):=by
 refine Vt.ind fun k s a cap kids lo hi ih n pre W hL hO hB hJ0 hN=>?_
 have hdd:∀ k:Nat,(F.depth.isSome=true→1≤k):=fun k h=>by rw[hd] at h;cases h
 have hb1:=(Below.refl W.heap.size W).alloc (Nat.le_refl _) (.cells (aI k s a kids.length cap lo hi).toArray 115)
 have hJ1:=Fg hJ hJ0 hb1
 have hbx:=Box.new W (aI k s a kids.length cap lo hi).toArray 115
 have hk1:aX X W (W.alloc (.cells (aI k s a kids.length cap lo hi).toArray 115)):=aX.below hb1
 have hNX:¬ X W.heap.size:=fun h=>by have:=hX _ h;omega
 simp only[jD,List.length_cons] at hN
 have Fp:=hY (n - 1) pre (.mk k s a cap kids lo hi) _ hJ1 (by omega)
 change YieldAt F (n - 1) Tryz.prog l #[.agg (aI k s a kids.length cap lo hi).toArray] _ _ at Fp
 obtain⟨fn,tmps,assign,body,hy,hR⟩:=Fp
 obtain⟨_,_,_,sA,lA⟩:=hL.open
 obtain⟨oA,X6⟩:=hO.open
 have HY:=ah hy
 change CallsIn _ _ _ _ #[.agg (aI k s a kids.length cap lo hi).toArray,_] _ _
 refine callsIn_of_wp Tryz.func187 rfl hF ?_ hro
 simp only[Tryz.ntmps187,List.size_toArray,List.length_cons,List.length_nil,Nat.reduceAdd,Nat.reduceSub,Array.replicate_succ,Array.replicate_zero,List.push_toArray,List.append_toArray,List.nil_append,List.cons_append]
 gi_wp2_with ((try refine⟨hdd _,?_⟩);refine hR.mono ?_;clear hR)
 rintro e W2 (⟨rfl,hJ2,hk2⟩ | ⟨rfl,hx2⟩)
 ·have hk3:=hk1.trans hk2
  have hb2:=hk2.box hNX hbx
  obtain⟨p0,p1,p2,p3,p4,p5,p6,p7⟩:=hb2.node
  have hB2:Bx≤W2.heap.size:=Nat.le_trans hB hk3.size
  have s2:=hk3.slice sA oA
  have HL:=ah fun i (h:i<kids.length)=>(lA i h).GN (X6 i h) hk3
  have HI:=ah ih
  have HO:=ah X6
  have HA:=ah oA
  have hfin:∀ e W',((e=.returned (.bool true)∧J (pre++[Vt.mk k s a cap kids lo hi]++iI kids) W'∧aX X W2 W')∨(e=.returned (.bool false)∧∃ r,r <+: iI kids∧Jx (pre++[Vt.mk k s a cap kids lo hi]++r) W'))→Jk X J Jx pre (jD (.mk k s a cap kids lo hi)) W e W':=fun e W' h=>by
   rcases h with⟨h1,h2,h3⟩ | ⟨h1,r,h2,h3⟩
   ·exact .inl ⟨h1,by simpa [jD] using h2,hk3.trans h3⟩
   ·exact .inr ⟨h1,Vt.mk k s a cap kids lo hi::r,by simpa [jD] using h2,by simpa using h3⟩
  have HF:=ah hfin
  have hlen:(pre++[Vt.mk k s a cap kids lo hi]).length+(iI kids).length≤N:=by simp only[List.length_append,List.length_singleton];omega
  clear hbx hb2 sA lA ih X6 hy HY hk1 hk2 hb1 hJ1 hO hL oA hfin
  generalize hp1:pre++[Vt.mk k s a cap kids lo hi]=adi at *
  generalize hq1:jD (Vt.mk k s a cap kids lo hi)=q1 at *
  have HP:=ah hp1
  have HQ:=ah hq1
  clear hp1 hq1
  gi_wp2
  gi_loopw [14] (fun i wr=>agR X J kids adi W2 wr i) (fun i _=>kids.length - (intOf i).toNat)
  case atStart=>exact⟨0,Nat.zero_le _,rfl,by simpa [iI] using hJ2,aX.refl _ _⟩
  case round =>
   obtain⟨j,hj,rfl,wC,hkr⟩:=hrel
   by_cases hlt:j<kids.length
   ·obtain⟨b,o,c1,c2,c3,_,c5⟩:=(hkr.slice s2 HA.out).kids
    clear s2
    obtain rfl:=c3 j hlt
    have e1:=c5 j hlt wr (Below.refl _ _)
    have hb3:=(Below.refl wr.heap.size wr).alloc (Nat.le_refl _) (.cells kids[j].cells.toArray 115)
    have hJ3:=Fg hJ wC hb3
    have hk4:aX X W2 (wr.alloc (.cells kids[j].cells.toArray 115)):=hkr.trans (aX.below hb3)
    have hps:=U9 kids j hlt
    have hpt:=X5 kids j hlt
    have hNj:(adi++iI (kids.take j)).length+(jD kids[j]).length≤N:=by
     have:=congrArg List.length hps
     simp only[List.length_append] at this ⊢
     omega
    have i1:=HI.out j hlt (n - 1) (adi++iI (kids.take j)) _ ((HL.out j hlt).GN (HO.out j hlt) hk4) (HO.out j hlt) (by have:=hk4.size;omega) hJ3 hNj
    have HS:=ah hps
    have HT:=ah hpt
    clear hps hpt c5 c3
    generalize kids[j]=V at *
    obtain⟨k1,s1,a1,AY,yS,lo1,hi1⟩:=V
    obtain⟨x0,x1,x2,x3,x4,x5,x6,x7⟩:=qI e1
    change CallsIn _ _ _ _ #[.agg (aI k1 s1 a1 yS.length AY lo1 hi1).toArray,_] (wr.alloc (.cells (aI k1 s1 a1 yS.length AY lo1 hi1).toArray 115)) _ at i1
    have I1:=ah i1
    clear e1 i1 hJ3 hb3
    gi_wp2_with ((try refine⟨hdd _,?_⟩);gi_at_call 187;refine I1.out.mono ?_;clear I1;rintro e W3 (⟨rfl,ZQ,hk5⟩ | ⟨rfl,r,hr,hx3⟩))
    ·go_roundw
     case rel=>exact⟨j+1,hlt,by go_num,by rw[HT.out,←List.append_assoc];exact ZQ,hk4.trans hk5⟩
     case measure=>simp[intOf];omega
    ·go_ret
     refine HF.out _ _ (.inr ⟨rfl,iI (kids.take j)++r,?_,by rw[←List.append_assoc];exact hx3⟩)
     rw[HS.out]
     exact List.prefix_append_right_inj _ |>.2 (hr.trans (List.prefix_append _ _))
   ·obtain rfl:j=kids.length:=by omega
    rw[List.take_length] at wC
    gi_wp2
    go_ret
    exact HF.out _ _ (.inl ⟨rfl,wC,hkr⟩)
 ·gi_wp2
  go_ret
  exact .inr ⟨rfl,[Vt.mk k s a cap kids lo hi],⟨iI kids,by simp[jD]⟩,hx2⟩
theorem aae(F:Fence)(hd:F.depth=none)(n:Nat)(hF:F.fn 186)(hF2:F.fn 187)(hro:F.round=none)(l Bt Bx:Nat)(X:Nat→Prop)(hX:∀ b,X b→b<Bx)(J Jx:List Vt→World→Prop)(hJ:AbidesFrom Bx J)(V:Vt)
  (hY:∀ pre x W,J pre W→pre.length<(jD V).length→YieldAt F (n - 1) Tryz.prog l (Qm x) W fun e W'=>(e=.returned (.bool true)∧J (pre++[x]) W'∧aX X W W')∨(e=.returned (.bool false)∧Jx (pre++[x]) W'))
  (W:World) (hB:Bx≤W.heap.size) (hBt:Box W Bt V.cells.toArray 115) (hL:Lies W V) (hO:On (fun b=>¬ X b) V) (h0:J [] W) :
  CallsIn F n Tryz.prog 186 #[.func (.yield l) #[] #[],.pointer (some ⟨Bt,0,none⟩)] W fun e W'=>(∃ v,e=.returned v)∧((∃ ys,ys=jD V∧J ys W')∨(∃ pre,pre <+: jD V∧Jx pre W')):=by
 have hdd:∀ k:Nat,(F.depth.isSome=true→1≤k):=fun k h=>by rw[hd] at h;cases h
 have hp:=Nr F hd hF2 hro l (jD V).length Bx X hX J Jx hJ (fun m pre x W hj hl=>aad hd m (hY pre x W hj hl)) V (n - 1) [] W hL hO hB h0 (by simp)
 have hq:∀ e W',Jk X J Jx [] (jD V) W e W'→(e=.returned (.bool true)∧J (jD V) W')∨(e=.returned (.bool false)∧∃ r,r <+: jD V∧Jx r W'):=fun e W' h=>by
  rcases h with⟨h1,h2,_⟩ | ⟨h1,r,h2,h3⟩
  ·exact .inl ⟨h1,by simpa using h2⟩
  ·exact .inr ⟨h1,r,h2,by simpa using h3⟩
 have hp2:=hp.mono hq
 clear hp hq hY hL hO h0
 generalize jD V=q at *
 obtain⟨k,s,a,cap,kids,lo,hi⟩:=V
 obtain⟨p0,p1,p2,p3,p4,p5,p6,p7⟩:=Box.node hBt
 change CallsIn _ _ _ _ #[.agg (aI k s a kids.length cap lo hi).toArray,_] _ _ at hp2
 refine callsIn_of_wp Tryz.func186 rfl hF ?_ hro
 simp only[Tryz.ntmps186,List.size_toArray,List.length_cons,List.length_nil,Nat.reduceAdd,Nat.reduceSub,Array.replicate_succ,Array.replicate_zero,List.push_toArray,List.append_toArray,List.nil_append,List.cons_append]
 gi_wp2_with ((try refine⟨hdd _,?_⟩);gi_at_call 187;refine hp2.mono ?_;clear hp2;rintro e W1 (⟨rfl,hJ1⟩ | ⟨rfl,r,hr,hx⟩))
 ·go_end0
  exact⟨⟨_,rfl⟩,.inl ⟨_,rfl,hJ1⟩⟩
 ·go_end0
  exact⟨⟨_,rfl⟩,.inr ⟨r,hr,hx⟩⟩
theorem Vd(F:Fence)(hd:F.depth=none)(n:Nat)(hF:F.fn 186)(hF2:F.fn 187)(hro:F.round=none)(Bt:Nat)(X:Nat→Prop)(V:Vt)(w:World)(hX:∀ b,X b→b<w.heap.size)
  (hBt:Box w Bt V.cells.toArray 115) (hL:Lies w V) (hO:On (fun b=>¬ X b) V) :
  SeqStopsK F n Tryz.prog 186 #[.pointer (some ⟨Bt,0,none⟩)] Qm (aX X) (fun ys=>ys=jD V) (fun pre=>pre <+: jD V) (jD V).length w:=fun l J Jx W hW hJ _ hY h0 =>
 aae F hd n hF hF2 hro l Bt W.heap.size X (fun b hb=>Nat.lt_of_lt_of_le (hX b hb) hW.size) J Jx hJ V hY W (Nat.le_refl _) (hBt.kept hW) (hL.kept hW) hO h0
theorem adk(V:Vt)(w:World):Calls Tryz.prog 138 #[.agg V.cells.toArray] w fun e w'=>e=.returned (.func (.func 186) #[] #[.pointer (some ⟨w.heap.size,0,none⟩)])∧w'=w.alloc (.cells V.cells.toArray 115):=by
 obtain⟨k,s,a,cap,kids,lo,hi⟩:=V
 change Calls _ _ #[.agg (aI k s a kids.length cap lo hi).toArray] _ _
 go_enter Tryz.func138,Tryz.ntmps138
 go_wp2
 go_ret
 exact⟨rfl,rfl⟩
end
section
open Go.RowKit Go.Shelf
attribute [local go_sem] Oper.semAt_some
def yu(lo hi:Int):Bool:=decide (0≤lo)&&decide (lo≤1000)&&(decide (hi=-1)||(decide (lo≤hi)&&decide (hi≤1000)))
def aaf:List Int:=[-1,0,0,0,2,2,1,1,1,1]
def iQ(k:Int):Int:=if 0≤k∧k<10 then aaf.getD k.toNat (-1) else -1
def fB(k:Int)(s:aF)(n:Nat)(lo hi:Int):Bool :=
 (decide (k=3)||decide (s=0))&&(if k=9 then yu lo hi else decide (lo=0)&&decide (hi=0)) &&
  (if iQ k=0 then decide (n=0) else if iQ k=1 then decide (n=1) else if iQ k=2 then decide (2≤n) else false)
mutual
def allT:Tr→Bool
 | .mk k s l lo hi=>fB k s l.length lo hi&&vG l
def vG:List Tr→Bool
 | []=>true
 | a::l=>allT a&&vG l
end
def jg(A:Tr):Bool:=decide (sizeT A≤4096)&&allT A
theorem KC(lo hi:Int)(w:World):Calls Tryz.prog 188 #[.int .i64 lo,.int .i64 hi] w (bF w (.bool (yu lo hi))):=by
 go_enter Tryz.func188,Tryz.ntmps188
 go_wp2
 all_goals
  go_ret
  refine⟨congrArg (fun b=>Ending.returned (Value.bool b)) ?_,by go_grown⟩
  rw[Bool.eq_iff_iff]
  simp[yu]
  try omega
theorem aag(n:Nat)(h:n<10):[Value.int .i64 (-1),.int .i64 0,.int .i64 0,.int .i64 0,.int .i64 2,.int .i64 2,.int .i64 1,.int .i64 1,.int .i64 1,.int .i64 1][n]?=some (.int .i64 (iQ n)):=by
 match n,h with
 | 0,_=>rfl
 | 1,_=>rfl
 | 2,_=>rfl
 | 3,_=>rfl
 | 4,_=>rfl
 | 5,_=>rfl
 | 6,_=>rfl
 | 7,_=>rfl
 | 8,_=>rfl
 | 9,_=>rfl
theorem rM(k:Int)(w:World):Calls Tryz.prog 189 #[.int .i64 k] w (bF w (.int .i64 (iQ k))):=by
 by_cases h0:k<0
 ·have e:iQ k=-1:=by unfold iQ;rw[if_neg (by omega)]
  rw[e]
  clear e
  go_enter Tryz.func189,Tryz.ntmps189
  go_wp2
  go_ret
  exact⟨rfl,by go_grown⟩
 ·by_cases h1:10≤k
  ·have e:iQ k=-1:=by unfold iQ;rw[if_neg (by omega)]
   rw[e]
   clear e
   go_enter Tryz.func189,Tryz.ntmps189
   go_wp2
   go_ret
   exact⟨rfl,by go_grown⟩
  ·obtain⟨n,rfl⟩:=Int.eq_ofNat_of_zero_le (show 0≤k by omega)
   have hn:n<10:=by omega
   have hg:=aag n hn
   generalize iQ (n:Int)=z at *
   go_enter Tryz.func189,Tryz.ntmps189
   go_wp2
   go_ret
   refine⟨congrArg Ending.returned ?_,by go_grown⟩
   obtain⟨_,hz⟩:=List.getElem?_eq_some_iff.1 hg
   simp
   exact hz
theorem Ve(k:Int):iQ k=-1∨iQ k=0∨iQ k=1∨iQ k=2:=by
 unfold iQ
 split
 ·rename_i h
  obtain⟨n,rfl⟩:=Int.eq_ofNat_of_zero_le h.1
  have hn:n<10:=by omega
  match n,hn with
  | 0,_ | 1,_ | 2,_ | 3,_ | 4,_ | 5,_ | 6,_ | 7,_ | 8,_ | 9,_=>decide
 ·exact .inl rfl
theorem X7(k:Int)(s:aF)(a:Option Addr)(n cap:Nat)(lo hi:Int)(w:World):Calls Tryz.prog 139 #[.agg (aI k s a n cap lo hi).toArray] w (bF w (.bool (fB k s n lo hi))):=by
 have hq:=adb (P:=Tryz.prog) (t:=113) (e:=111) Tryz.underlying113 Tryz.underlying111 (by kernel_rfl) s 0
 unfold mY at hq
 rw[jS] at hq
 by_cases h3:k=3
 ·subst h3
  have ar:iQ 3=0:=by decide
  by_cases h1:lo=0
  ·subst h1
   by_cases h2:hi=0
   ·subst h2
    have e:fB 3 s n 0 0=((n:Int)==0):=by unfold fB;rw[ar];rw[Bool.eq_iff_iff];simp
    rw[e]
    clear e hq ar
    go_enter Tryz.func139,Tryz.ntmps139
    go_wp2_with (go_at_call 189;go_must (refine(rM 3 _).mono ?_;rintro e w1 ⟨rfl,hb⟩;rw[show iQ 3=0 by decide];have x5:=((Box.new w (aI 3 s a n cap 0 0).toArray 115).kept hb).cell 5))
    go_ret
    exact⟨rfl,((Below.refl w.heap.size w).alloc (Nat.le_refl _) _).trans (hb.mono (by simp))⟩
   ·have e:fB 3 s n 0 hi=false:=by unfold fB;simp[h2]
    have g2:(hi != 0)=true:=by simpa using h2
    rw[e]
    clear e hq ar h2
    go_enter Tryz.func139,Tryz.ntmps139
    go_wp2
    go_ret
    exact⟨rfl,by go_grown⟩
  ·have e:fB 3 s n lo hi=false:=by unfold fB;simp[h1]
   have g1:(lo != 0)=true:=by simpa using h1
   rw[e]
   clear e hq ar h1
   go_enter Tryz.func139,Tryz.ntmps139
   go_wp2
   go_ret
   exact⟨rfl,by go_grown⟩
 ·have g3:(k != 3)=true:=by simpa using h3
  by_cases hs:s=0
  ·rw[decide_eq_true hs] at hq
   by_cases h9:k=9
   ·subst h9
    have ar:iQ 9=1:=by decide
    cases ht:yu lo hi with
    | true =>
     have e:fB 9 s n lo hi=((n:Int)==1):=by
      unfold fB;rw[ar,ht,hs];rw[Bool.eq_iff_iff];simp;omega
     have HT:=ah ht
     rw[e]
     clear e hs h3 ar ht
     go_enter Tryz.func139,Tryz.ntmps139
     go_wp2_with (first | (go_at_call 188;go_must (refine(KC lo hi _).mono ?_;rintro e w0 ⟨rfl,hb0⟩;rw[HT.out];have y:=(Box.new w (aI 9 s a n cap lo hi).toArray 115).kept hb0;have y0:=y.cell 0;have y5:=y.cell 5)) | (go_at_call 189;go_must (refine(rM 9 _).mono ?_;rintro e w1 ⟨rfl,hb⟩;rw[show iQ 9=1 by decide];have x5:=(y.kept hb).cell 5)))
     go_ret
     exact⟨rfl,(((Below.refl w.heap.size w).alloc (Nat.le_refl _) _).trans (hb0.mono (by simp))).trans (hb.mono (by have:=hb0.size;simp at this;omega))⟩
    | false =>
     have e:fB 9 s n lo hi=false:=by unfold fB;simp[ht]
     have HT:=ah ht
     rw[e]
     clear e hs h3 ar ht
     go_enter Tryz.func139,Tryz.ntmps139
     go_wp2_with (go_at_call 188;go_must (refine(KC lo hi _).mono ?_;rintro e w0 ⟨rfl,hb0⟩;rw[HT.out]))
     go_ret
     exact⟨rfl,((Below.refl w.heap.size w).alloc (Nat.le_refl _) _).trans (hb0.mono (by simp))⟩
   ·have g9:(k==9)=false:=by simpa using h9
    by_cases h1:lo=0
    ·subst h1
     by_cases h2:hi=0
     ·subst h2
      rcases Ve k with hz | hz | hz | hz
      ·have e:fB k s n 0 0=false:=by unfold fB;rw[hz,hs];rw[Bool.eq_iff_iff];simp[h9]
       have HZ:=ah hz
       rw[e]
       clear e hz hs h3 h9
       go_enter Tryz.func139,Tryz.ntmps139
       go_wp2_with (go_at_call 189;go_must (refine(rM k _).mono ?_;rintro e w1 ⟨rfl,hb⟩;rw[HZ.out];have x5:=((Box.new w (aI k s a n cap 0 0).toArray 115).kept hb).cell 5))
       go_ret
       exact⟨rfl,((Below.refl w.heap.size w).alloc (Nat.le_refl _) _).trans (hb.mono (by simp))⟩
      ·have e:fB k s n 0 0=((n:Int)==0):=by unfold fB;rw[hz,hs];rw[Bool.eq_iff_iff];simp[h9]
       have HZ:=ah hz
       rw[e]
       clear e hz hs h3 h9
       go_enter Tryz.func139,Tryz.ntmps139
       go_wp2_with (go_at_call 189;go_must (refine(rM k _).mono ?_;rintro e w1 ⟨rfl,hb⟩;rw[HZ.out];have x5:=((Box.new w (aI k s a n cap 0 0).toArray 115).kept hb).cell 5))
       go_ret
       exact⟨rfl,((Below.refl w.heap.size w).alloc (Nat.le_refl _) _).trans (hb.mono (by simp))⟩
      ·have e:fB k s n 0 0=((n:Int)==1):=by unfold fB;rw[hz,hs];rw[Bool.eq_iff_iff];simp[h9];omega
       have HZ:=ah hz
       rw[e]
       clear e hz hs h3 h9
       go_enter Tryz.func139,Tryz.ntmps139
       go_wp2_with (go_at_call 189;go_must (refine(rM k _).mono ?_;rintro e w1 ⟨rfl,hb⟩;rw[HZ.out];have x5:=((Box.new w (aI k s a n cap 0 0).toArray 115).kept hb).cell 5))
       go_ret
       exact⟨rfl,((Below.refl w.heap.size w).alloc (Nat.le_refl _) _).trans (hb.mono (by simp))⟩
      ·have e:fB k s n 0 0=decide (2≤(n:Int)):=by unfold fB;rw[hz,hs];rw[Bool.eq_iff_iff];simp[h9];omega
       have HZ:=ah hz
       rw[e]
       clear e hz hs h3 h9
       go_enter Tryz.func139,Tryz.ntmps139
       go_wp2_with (go_at_call 189;go_must (refine(rM k _).mono ?_;rintro e w1 ⟨rfl,hb⟩;rw[HZ.out];have x5:=((Box.new w (aI k s a n cap 0 0).toArray 115).kept hb).cell 5))
       go_ret
       exact⟨rfl,((Below.refl w.heap.size w).alloc (Nat.le_refl _) _).trans (hb.mono (by simp))⟩
     ·have e:fB k s n 0 hi=false:=by unfold fB;simp[h2,h9]
      have g2:(hi != 0)=true:=by simpa using h2
      rw[e]
      clear e hs h3 h2 h9
      go_enter Tryz.func139,Tryz.ntmps139
      go_wp2
      go_ret
      exact⟨rfl,by go_grown⟩
    ·have e:fB k s n lo hi=false:=by unfold fB;simp[h1,h9]
     have g1:(lo != 0)=true:=by simpa using h1
     rw[e]
     clear e hs h3 h1 h9
     go_enter Tryz.func139,Tryz.ntmps139
     go_wp2
     go_ret
     exact⟨rfl,by go_grown⟩
  ·have e:fB k s n lo hi=false:=by unfold fB;rw[decide_eq_false h3,decide_eq_false hs];rfl
   rw[decide_eq_false hs] at hq
   rw[e]
   clear e h3 hs
   go_enter Tryz.func139,Tryz.ntmps139
   go_wp2
   go_ret
   exact⟨rfl,by go_grown⟩
end
end Go.Proofs.YtengfapcaaacaaaGreatDoor
