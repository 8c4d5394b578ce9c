/- The texts of N13, in few letters (mini.py). -/
import Derived.Test.YtengfapcaaacaaaGreatDoorM12
set_option linter.unusedVariables false
set_option linter.unusedSimpArgs false
set_option maxRecDepth 20000
set_option maxHeartbeats 3200000
namespace Go.Proofs.YtengfapcaaacaaaGreatDoor
section
open Go.RowKit
def vJ(l:List UInt8)(fr:Nat):Nat→au→Nat→Sum (Nat×Nat) (au×Nat)
 | 0,_,_=>.inl (13,fr)
 | n+1,s,i=>if aX l i 93=true then .inr (s,i+1) else match iP l fr i with
  | .inl q=>.inl q
  | .inr (q,k)=>vJ l fr n (s ||| gW q.1 q.2) k
def yD(l:List UInt8)(fr i:Nat):Sum (Nat×Nat) (au×Nat) :=
 match iP l fr i with
 | .inl q=>.inl q
 | .inr (q,k)=>vJ l fr (l.length+1) (gW q.1 q.2) k
def oG(l:List UInt8)(fr:Nat):Sum (Nat×Nat) (au×Nat) :=
 if aX l fr 91=true then
  (match yD l fr (if aX l (fr+1) 94=true then fr+2 else fr+1) with
   | .inl q=>.inl q
   | .inr (s,j)=>.inr (if aX l (fr+1) 94=true then ~~~s else s,j))
 else .inl (1,0)
instance alM (X:Nat→Prop):jw (aQ X):=⟨aQ.refl X,fun _ _ _ h k=>h.trans k,fun _ _ h=>aQ.below h⟩
def dZ(k p:Nat):Value:=.agg #[.int .i64 k,.int .i64 p]
def agY:Sum (Nat×Nat) (au×Nat)→Value
 | .inl (kd,ps)=>.tuple #[iK 0,.int .i64 (0:Nat),dZ kd ps]
 | .inr (s,j)=>.tuple #[iK s,.int .i64 j,dZ 0 0]
structure CR(w W:World)(g:Nat×Nat)(n cap fr i k p:Nat)(l:List UInt8):Prop where
 x0:Box W w.heap.size (bT 0) 113
 x1:Box W (w.heap.size+1) #[.int .i64 0,.int .i64 0] 66
 rd:eY W (w.heap.size+1+1) g n cap i fr k p l
 below:Below w.heap.size w W
theorem CR.step{w W W':World}{g:Nat×Nat}{n cap fr i k p i' k' p':Nat}{l:List UInt8}(h:CR w W g n cap fr i k p l)(hr:eY W' (w.heap.size+1+1) g n cap i' fr k' p' l)(ho:Only (w.heap.size+1+1) W W'):CR w W' g n cap fr i' k' p' l :=
 ⟨ho.box h.x0 (by omega),ho.box h.x1 (by omega),hr,h.below.trans (ho.1.mono (by omega))⟩
theorem CR.kept{w W W':World}{g:Nat×Nat}{n cap fr i k p:Nat}{l:List UInt8}(h:CR w W g n cap fr i k p l)(hb:Below W.heap.size W W'):CR w W' g n cap fr i k p l :=
 ⟨h.x0.kept hb,h.x1.kept hb,h.rd.kept hb,h.below.trans (hb.mono h.below.size)⟩
theorem CR.only{w W W':World}{g:Nat×Nat}{n cap fr i k p:Nat}{l:List UInt8}(h:CR w W g n cap fr i k p l)(ho:Below W.heap.size W W'):Only (w.heap.size+1+1) W W':=Only.below ho (Nat.le_of_lt h.rd.box.lt)
theorem CR.start{g:Nat×Nat}{n cap:Nat}(fr:Nat){l:List UInt8}{w:World}(h:ak w (.slice (some ⟨g.1,g.2,none⟩) n cap) 1 bK l)(hg:g.1<w.heap.size) :
  CR w (((w.alloc (.cells #[.int .u64 0,.int .u64 0,.int .u64 0,.int .u64 0] 113)).alloc (.cells #[.int .i64 0,.int .i64 0] 66)).alloc (.cells #[.slice (some ⟨g.1,g.2,none⟩) n cap,.int .i64 fr,.int .i64 fr,.int .i64 0,.int .i64 0] 354)) g n cap fr fr 0 0 l:=by
 have hb:Below w.heap.size w (((w.alloc (.cells #[.int .u64 0,.int .u64 0,.int .u64 0,.int .u64 0] 113)).alloc (.cells #[.int .i64 0,.int .i64 0] 66)).alloc (.cells #[.slice (some ⟨g.1,g.2,none⟩) n cap,.int .i64 fr,.int .i64 fr,.int .i64 0,.int .i64 0] 354)) :=
  (((Below.refl _ w).alloc (Nat.le_refl _) _).alloc (by simp) _).alloc (by simp;omega) _
 refine⟨?_,?_,⟨?_,h.kept hb,by omega⟩,hb⟩
 ·rw[gG];exact((Box.new' rfl _ _).alloc _).alloc _
 ·exact(Box.new' (by simp) _ _).alloc _
 ·exact Box.new' (by simp) _ _
theorem VG{l:List UInt8}{i x j:Nat}(h:mM l i=.inr (x,j)):i<j:=by
 unfold mM at h
 repeat' split at h
 all_goals first | (cases h;omega) | cases h
theorem Ry{l:List UInt8}{fr i x j:Nat}(h:iY l fr i=.inr (x,j)):i<j:=by
 unfold iY at h
 repeat' split at h
 all_goals first | exact VG h | (cases h;omega) | cases h
theorem Ec{l:List UInt8}{fr i k:Nat}{q:Nat×Nat}(h:iP l fr i=.inr (q,k)):i<k:=by
 cases hc:iY l fr i with
 | inl q=>rw[Rt hc] at h;cases h
 | inr p =>
  obtain⟨lo,j⟩:=p
  have h1:=Ry hc
  cases hh:aX l j 45 with
  | false=>rw[OB hc hh] at h;cases h;exact h1
  | true =>
   cases hc2:iY l fr (j+1) with
   | inl q=>rw[Ru hc hh hc2] at h;cases h
   | inr p2 =>
    obtain⟨hi,k2⟩:=p2
    have h2:=Ry hc2
    by_cases hlt:hi<lo
    ·rw[Rw hc hh hc2 hlt] at h;cases h
    ·rw[OC hc hh hc2 hlt] at h;cases h;omega
theorem Rz{l:List UInt8}{fr i kd ps:Nat}(h:iP l fr i=.inl (kd,ps)):kd≠0:=by
 unfold iP at h
 repeat' split at h
 all_goals first | (cases h;exact Rx (by assumption)) | (cases h;decide) | cases h
theorem qH{P:Program}{fn:Func}{R:Ending→World→Prop}{a:Act}{w:World}{p u q:Tmp}{ty b E vK b2 E2:Nat}{cs cs2:Array Value}{d d2:TypeDesc}{v:Value}
  (hr:fn.results=#[.cell p ty,.tmp u,.cell q vK]) (hp:a.tmps.getD p undef=.pointer (some ⟨b,0,none⟩)) (hv:a.tmps.getD u undef=v) (hq:a.tmps.getD q undef=.pointer (some ⟨b2,0,none⟩)) (hb:Box w b cs E) (hb2:Box w b2 cs2 E2)
  (hu:P.underlying ty=some d) (hd:(match d with | .struct _ | .array _ _=>true | _=>false)=true) (hi:(P.info? ty).map (·.size)=some cs.size)
  (hu2:P.underlying vK=some d2) (hd2:(match d2 with | .struct _ | .array _ _=>true | _=>false)=true) (hi2:(P.info? vK).map (·.size)=some cs2.size)
  (hdf:a.defers=[]) (hR:R (.returned (.tuple #[.agg cs,v,.agg cs2])) w):bodyPost P fn R .ret a w :=
 ⟨hdf,_,by
  have hp':a.tmps[p]?.getD undef=.pointer (some ⟨b,0,none⟩):=by simpa using hp
  have hv':a.tmps[u]?.getD undef=v:=by simpa using hv
  have hq':a.tmps[q]?.getD undef=.pointer (some ⟨b2,0,none⟩):=by simpa using hq
  simp[results,hr,hp',hv',hq',asAddr,run_loadVar_row w b E ty cs (0,0) d hb hu hd hi,run_loadVar_row w b2 E2 vK cs2 (0,0) d2 hb2 hu2 hd2 hi2],hR⟩
def Xp(w:World)(g:Nat×Nat)(n cap fr sB:Nat)(l:List UInt8)(ANS:Sum (Nat×Nat) (au×Nat))(W:World):Prop :=
 (∃ f j,∃ s:au,j≤n∧n<f+j∧vJ l fr f s j=ANS∧CR w W g n cap fr j 0 0 l∧Box W sB (bT s) 113) ∨
 (∃ kd ps j,∃ s:au,kd≠0∧j≤n∧ANS=.inl (kd,ps)∧CR w W g n cap fr j kd ps l∧Box W sB (bT s) 113)
def KU(b n:Nat)(W:World):Nat:=match W.cell? ⟨b,3,none⟩,W.cell? ⟨b,1,none⟩ with
 | some (.int _ k),some (.int _ i)=>if k=0 then n+1 - i.toNat else 0
 | _,_=>0
theorem RD{w W:World}{g:Nat×Nat}{n cap fr i k p:Nat}{l:List UInt8}(h:CR w W g n cap fr i k p l):KU (w.heap.size+1+1) n W=if k=0 then n+1 - i else 0:=by
 obtain⟨c0,c1,c2,c3,c4⟩:=h.rd.cells
 unfold KU
 rw[c3,c1]
 simp
theorem FP.gives{b:Nat}{g:Nat×Nat}{n cap fr p:Nat}{l:List UInt8}{w w':World}{r:Sum (Nat×Nat) ((Nat×Nat)×Nat)}{e:Ending}(h:FP b g n cap fr p l w r e w') :
  ∃ (s:au) (j kd ps:Nat),j≤n∧qF b g n cap fr l w (iK s) j kd ps e w'∧((kd=0∧ps=p∧∃ q,r=.inr (q,j)∧s=gW q.1 q.2)∨(kd≠0∧r=.inl (kd,ps))):=by
 cases r with
 | inl q=>obtain⟨h0,s,j,hj,hr⟩:=h;exact⟨s,j,q.1,q.2,hj,hr,.inr ⟨h0,rfl⟩⟩
 | inr q=>obtain⟨hj,hr⟩:=h;exact⟨_,q.2,0,p,hj,hr,.inl ⟨rfl,rfl,q.1,rfl,rfl⟩⟩
theorem CR.ends{w W:World}{g:Nat×Nat}{n cap fr i k p:Nat}{l:List UInt8}(h:CR w W g n cap fr i k p l)(v0 v1 v2 v3 u0 u1:Value) :
  Box ((((((W.setCell ⟨w.heap.size,0,none⟩ v0).setCell ⟨w.heap.size,1,none⟩ v1).setCell ⟨w.heap.size,2,none⟩ v2).setCell ⟨w.heap.size,3,none⟩ v3).setCell ⟨w.heap.size+1,0,none⟩ u0).setCell ⟨w.heap.size+1,1,none⟩ u1) w.heap.size #[v0,v1,v2,v3] 113 ∧
  Box ((((((W.setCell ⟨w.heap.size,0,none⟩ v0).setCell ⟨w.heap.size,1,none⟩ v1).setCell ⟨w.heap.size,2,none⟩ v2).setCell ⟨w.heap.size,3,none⟩ v3).setCell ⟨w.heap.size+1,0,none⟩ u0).setCell ⟨w.heap.size+1,1,none⟩ u1) (w.heap.size+1) #[u0,u1] 66 ∧
  Below w.heap.size w ((((((W.setCell ⟨w.heap.size,0,none⟩ v0).setCell ⟨w.heap.size,1,none⟩ v1).setCell ⟨w.heap.size,2,none⟩ v2).setCell ⟨w.heap.size,3,none⟩ v3).setCell ⟨w.heap.size+1,0,none⟩ u0).setCell ⟨w.heap.size+1,1,none⟩ u1) :=
 ⟨((h.x0.eG rfl v0 v1 v2 v3).other _ _ (by simp)).other _ _ (by simp),(((h.x1.C9 (by omega) v0 v1 v2 v3).set 0 u0).set 1 u1),
  (((((h.below.setCell (by simp) _).setCell (by simp) _).setCell (by simp) _).setCell (by simp) _).setCell (by simp) _).setCell (by simp) _⟩
section
variable {P:Program} {ops:Array Oper} {Q:Exit→Act→World→Prop} {md:Region.Mode}
theorem oO{i:Nat}{oi:Oper}{fuel:Nat}{listed:Array Bool}{a:Act}{w:World}(hr:Region.ready md ops listed=[i])(hi:ops[i]?=some oi)
  (h:∀ K:Act→World→Prop,Shut (∀ a' w',wpAny P md ops Q fuel (listed.setIfInBounds i true) a' w'→K a' w')→if Region.wanted oi (yielded ops a.tmps)=true then Oper.wp P oi a w K Q else K (a.put oi.dst undef) w) :
  wpAny P md ops Q (fuel+1) listed a w:=⟨fun h0=>(by rw[hr] at h0;cases h0),fun j hj=>by
 rw[hr,List.mem_singleton] at hj
 subst hj
 exact wpOp_step hi (fun K' hK=>h K' hK)⟩
theorem Zw{i j:Nat}{oi oj:Oper}{fuel:Nat}{listed:Array Bool}{a:Act}{w:World}(hr:Region.ready md ops listed=[i,j])(hi:ops[i]?=some oi)(hj:ops[j]?=some oj)
  (h1:∀ K:Act→World→Prop,Shut (∀ a' w',wpAny P md ops Q fuel (listed.setIfInBounds i true) a' w'→K a' w')→if Region.wanted oi (yielded ops a.tmps)=true then Oper.wp P oi a w K Q else K (a.put oi.dst undef) w)
  (h2:∀ K:Act→World→Prop,Shut (∀ a' w',wpAny P md ops Q fuel (listed.setIfInBounds j true) a' w'→K a' w')→if Region.wanted oj (yielded ops a.tmps)=true then Oper.wp P oj a w K Q else K (a.put oj.dst undef) w) :
  wpAny P md ops Q (fuel+1) listed a w:=⟨fun h0=>(by rw[hr] at h0;cases h0),fun k hk=>by
 rw[hr,List.mem_cons,List.mem_singleton] at hk
 rcases hk with rfl | rfl
 ·exact wpOp_step hi (fun K' hK=>h1 K' hK)
 ·exact wpOp_step hj (fun K' hK=>h2 K' hK)⟩
theorem wpAny_done{listed:Array Bool}{a:Act}{w:World}(hr:Region.ready md ops listed=[])(h:Q .normal a w):∀ fuel,wpAny P md ops Q fuel listed a w
 | 0=>⟨hr,h⟩
 | _+1=>⟨fun _=>h,by rw[hr];simp⟩
end
theorem UQ{P:Program}{ops:Array Oper}{Q:Exit→Act→World→Prop}{id:Nat}{a:Act}{w:World}(hm:P.follows .mixedOrders=true)(h:wpAny P .any ops Q ops.size (Array.replicate ops.size false) a w.drew):(Code.region id ops true).wp P Q a w:=wp_region_any hm h
structure Turns(B E:Nat)(fin:Array Value)(w w':World):Prop where
 keep:aQ (·=B) w w'
 low:B≤w.heap.size→Below B w w'
 box:∀ c,Box w B c E→Box w' B c E∨Box w' B fin E
instance kM (B E:Nat) (fin:Array Value):jw (Turns B E fin) where
 refl:=fun _=>⟨aQ.refl _ _,fun _=>Below.refl _ _,fun _ h=>.inl h⟩
 trans:=fun _ _ _ h k=>⟨h.keep.trans k.keep,fun hb=>(h.low hb).trans (k.low (Nat.le_trans hb h.keep.size)),fun c hc=>(h.box c hc).elim (k.box c) (fun h2=>(k.box _ h2).elim .inr .inr)⟩
 later:=fun _ _ h=>⟨aQ.below h,fun hb=>Below.mono h hb,fun _ hc=>.inl (hc.kept h)⟩
theorem Turns.fin{B E:Nat}{fin:Array Value}{w w':World}(h:Turns B E fin w w')(hb:Box w B fin E):Box w' B fin E:=(h.box _ hb).elim id id
theorem oP(B i:Nat)(w:World)(v:Value):aQ (·=B) w (w.setCell ⟨B,i,none⟩ v):=aQ.set w _ v rfl
theorem Ac{B E:Nat}{v0 v1 v2 v3:Value}{w:World}{c:Array Value}(hc:Box w B c E)(h4:c.size=4) :
  Turns B E #[v0,v1,v2,v3] w ((((w.setCell ⟨B,0,none⟩ v0).setCell ⟨B,1,none⟩ v1).setCell ⟨B,2,none⟩ v2).setCell ⟨B,3,none⟩ v3) :=
 ⟨((oP B 0 _ _).trans (oP B 1 _ _)).trans ((oP B 2 _ _).trans (oP B 3 _ _)),
  fun _=>((((Below.refl B w).setCell (by simp) _).setCell (by simp) _).setCell (by simp) _).setCell (by simp) _,fun _ _=>.inr (hc.eG h4 _ _ _ _)⟩
structure CT(w W:World)(g:Nat×Nat)(n cap fr i k p:Nat)(l:List UInt8)(fin:au):Prop where
 x0:Box W w.heap.size (bT 0) 113∨Box W w.heap.size (bT fin) 113
 x1:Box W (w.heap.size+1) #[.int .i64 0,.int .i64 0] 66
 rd:eY W (w.heap.size+1+1) g n cap i fr k p l
 below:Below w.heap.size w W
theorem CT.of{w W:World}{g:Nat×Nat}{n cap fr i k p:Nat}{l:List UInt8}(fin:au)(h:CR w W g n cap fr i k p l):CT w W g n cap fr i k p l fin:=⟨.inl h.x0,h.x1,h.rd,h.below⟩
theorem CT.turn{w W W':World}{g:Nat×Nat}{n cap fr i k p:Nat}{l:List UInt8}{fin:au}(h:CT w W g n cap fr i k p l fin)(hg:g.1≠w.heap.size)(ht:Turns w.heap.size 113 (bT fin) W W'):CT w W' g n cap fr i k p l fin :=
 ⟨h.x0.elim (ht.box _) (fun h2=>.inr (ht.fin h2)),ht.keep.box (by simp) h.x1,⟨ht.keep.box (by show ¬ _;omega) h.rd.box,ht.keep.slice h.rd.sl (fun _ ad e=>by cases e;exact hg),h.rd.ne⟩,h.below.trans (ht.low h.below.size)⟩
theorem CT.four{w W:World}{g:Nat×Nat}{n cap fr i k p:Nat}{l:List UInt8}{fin:au}(h:CT w W g n cap fr i k p l fin):∃ s:au,Box W w.heap.size (bT s) 113:=h.x0.elim (⟨_,·⟩) (⟨_,·⟩)
theorem CR.eG{w W:World}{g:Nat×Nat}{n cap fr i k p sB:Nat}{l:List UInt8}(h:CR w W g n cap fr i k p l)(hs:w.heap.size+1+1<sB)(hg:g.1<w.heap.size)(v0 v1 v2 v3:Value) :
  CR w ((((W.setCell ⟨sB,0,none⟩ v0).setCell ⟨sB,1,none⟩ v1).setCell ⟨sB,2,none⟩ v2).setCell ⟨sB,3,none⟩ v3) g n cap fr i k p l :=
 have hk:aQ (·=sB) W ((((W.setCell ⟨sB,0,none⟩ v0).setCell ⟨sB,1,none⟩ v1).setCell ⟨sB,2,none⟩ v2).setCell ⟨sB,3,none⟩ v3):=((oP sB 0 _ _).trans (oP sB 1 _ _)).trans ((oP sB 2 _ _).trans (oP sB 3 _ _))
 ⟨hk.box (by show ¬ _;omega) h.x0,hk.box (by show ¬ _;omega) h.x1,⟨hk.box (by show ¬ _;omega) h.rd.box,hk.slice h.rd.sl (fun _ ad e=>by cases e;show ¬ _;simp;omega),h.rd.ne⟩,
  (((h.below.setCell (by simp;omega) _).setCell (by simp;omega) _).setCell (by simp;omega) _).setCell (by simp;omega) _⟩
theorem zA(l:List UInt8)(fr f:Nat)(s:au)(i:Nat):vJ l fr (f+1) s i=if aX l i 93=true then .inr (s,i+1) else match iP l fr i with
  | .inl q=>.inl q
  | .inr (q,k)=>vJ l fr f (s ||| gW q.1 q.2) k:=rfl
theorem FT(g:Nat×Nat)(n cap fr:Nat)(l:List UInt8)(w:World)(h:ak w (.slice (some ⟨g.1,g.2,none⟩) n cap) 1 bK l)(hg:g.1<w.heap.size) :
  Calls Tryz.prog 249 #[.slice (some ⟨g.1,g.2,none⟩) n cap,.int .i64 fr] w (aY w (agY (oG l fr))):=by
 have hlen:n=l.length:=h.cellsA.1
 have hS:=CR.start fr h hg
 have FU:∀ W,CR w W g n cap fr fr 0 0 l→Calls Tryz.prog 276 #[.pointer (some ⟨w.heap.size+1+1,0,none⟩),.int .u8 91] W (qF (w.heap.size+1+1) g n cap fr l W (.bool (aX l fr 91)) (if aX l fr 91 then fr+1 else fr) 0 0):=fun W hc=>zy (w.heap.size+1+1) g n cap fr fr 0 0 l 91 W hc.rd
 have Xq:∀ W,CR w W g n cap fr (fr+1) 0 0 l→Calls Tryz.prog 276 #[.pointer (some ⟨w.heap.size+1+1,0,none⟩),.int .u8 94] W (qF (w.heap.size+1+1) g n cap fr l W (.bool (aX l (fr+1) 94)) (if aX l (fr+1) 94 then fr+1+1 else fr+1) 0 0):=fun W hc=>zy (w.heap.size+1+1) g n cap (fr+1) fr 0 0 l 94 W hc.rd
 have acF:∀ W j,CR w W g n cap fr j 0 0 l→Calls Tryz.prog 276 #[.pointer (some ⟨w.heap.size+1+1,0,none⟩),.int .u8 93] W (qF (w.heap.size+1+1) g n cap fr l W (.bool (aX l j 93)) (if aX l j 93 then j+1 else j) 0 0):=fun W j hc=>zy (w.heap.size+1+1) g n cap j fr 0 0 l 93 W hc.rd
 have hI:=fun W i (hc:CR w W g n cap fr i 0 0 l) (hi:i≤n)=>(UO (w.heap.size+1+1) g n cap i fr 0 l W hc.rd hi).mono fun _ _=>FP.gives
 have HI:=ah hI
 have alN:=ah acF
 unfold oG
 cases h0:aX l fr 91 with
 | false =>
  rw[h0] at FU
  simp only[Bool.false_eq_true,if_false] at FU ⊢
  have HC:=ah FU
  have HS:=ah hS
  clear FU Xq acF hI hS h hlen h0
  go_enter Tryz.func249,Tryz.ntmps249
  go_wp2_with (go_at_call 276;go_must (refine(HC.out _ HS.out).mono ?_;rintro e w1 ⟨rfl,hR1,tV⟩;have hc1:=HS.out.step hR1 tV;obtain⟨⟨p0,p1,p2,p3⟩,⟨q0,q1,q2,q3⟩⟩:=hc1.x0.jv;have r0:=hc1.x1.cell 0;have r1:=hc1.x1.cell 1;have s0:=hc1.x1.free 0;have s1:=hc1.x1.free 1))
  obtain⟨hE0,hE1,hE2⟩:=hc1.ends (.int .u64 0) (.int .u64 0) (.int .u64 0) (.int .u64 0) (.int .i64 1) (.int .i64 0)
  have hz:=gG
  exact qH Tryz.results249 rfl rfl rfl hE0 hE1 Tryz.underlying113 rfl (by kernel_rfl) Tryz.underlying66 rfl (by kernel_rfl) rfl ⟨by unfold agY iK dZ;rw[hz];rfl,hE2⟩
 | true =>
  rw[h0] at FU
  simp only[if_true] at FU ⊢
  have hn1:=iO h0
  obtain⟨t,ht⟩:∃ t,aX l (fr+1) 94=t:=⟨_,rfl⟩
  obtain⟨i2,hi2⟩:∃ i2:Nat,(if t=true then fr+2 else fr+1)=i2:=⟨_,rfl⟩
  have alO:i2≤n:=by
   rw[←hi2]
   cases t with
   | true=>have:=iO ht;simp;omega
   | false=>simp;omega
  rw[ht] at Xq ⊢
  have aej:∀ W,CR w W g n cap fr (fr+1) 0 0 l→Calls Tryz.prog 276 #[.pointer (some ⟨w.heap.size+1+1,0,none⟩),.int .u8 94] W (qF (w.heap.size+1+1) g n cap fr l W (.bool t) i2 0 0):=by rw[←hi2];exact Xq
  rw[hi2]
  obtain⟨ANS,hA⟩:∃ ANS,yD l fr i2=ANS:=⟨_,rfl⟩
  rw[hA]
  have hstart:∀ (s:au) (j kd ps:Nat) (W:World) (sB:Nat),j≤n→((kd=0∧ps=0∧∃ q,iP l fr i2=.inr (q,j)∧s=gW q.1 q.2)∨(kd≠0∧iP l fr i2=.inl (kd,ps)))→CR w W g n cap fr j kd ps l→Box W sB (bT s) 113→Xp w g n cap fr sB l ANS W:=by
   intro s j kd ps W sB hj hor hc hb
   unfold yD at hA
   rcases hor with⟨rfl,rfl,q,hq,rfl⟩ | ⟨h1,hq⟩
   ·rw[hq] at hA
    exact .inl ⟨_,j,_,hj,by omega,hA,hc,hb⟩
   ·rw[hq] at hA
    exact .inr ⟨kd,ps,j,s,h1,hj,hA.symm,hc,hb⟩
  have HST:=ah hstart
  have KT:=ah FU
  have HC4:=ah aej
  have HS:=ah hS
  have HL:=ah hlen
  clear FU Xq aej acF hI hS h hlen h0 hi2 ht hA hn1 hstart
  have NG:g.1≠w.heap.size:=by omega
  go_enter Tryz.func249,Tryz.ntmps249
  go_wp2_with (first | (go_at_call_of 276 ((Value.int IntKind.u8 91));refine(KT.out _ HS.out).mono ?_;rintro e w1 ⟨rfl,hR1,tV⟩;have hc1:=HS.out.step hR1 tV) | (go_at_call_of 276 ((Value.int IntKind.u8 94));refine(HC4.out _ hc1).mono ?_;rintro e w2 ⟨rfl,hR2,hO2⟩;have hc2:=hc1.step hR2 hO2) | (go_at_call 277;go_must (refine(HI.out _ _ hc2 alO).mono ?_;rintro e w3 ⟨s0,j0,kd0,ps0,hj0,⟨rfl,gy,hO3⟩,hor⟩;have hc3:=hc2.step gy hO3)))
  have hcA:=hc3.kept (aj w3 (.cells (bT s0) 113))
  have hbA:=Box.new' (w:=w3) rfl (bT s0) 113
  have hL0:=HST.out s0 j0 kd0 ps0 _ w3.heap.size hj0 hor hcA hbA
  have hsB:w.heap.size+1+1<w3.heap.size:=hc3.rd.box.lt
  clear hcA hbA hor hc3 gy hO3 hc2 hR2 hO2 hc1 hR1 tV hj0
  unfold bT at hL0
  generalize w3.alloc (.cells #[.int .u64 (word s0 0:Nat),.int .u64 (word s0 1:Nat),.int .u64 (word s0 2:Nat),.int .u64 (word s0 3:Nat)] 113)=WL at *
  generalize w3.heap.size=sB at *
  go_loopw [] (fun wr=>Xp w g n cap fr sB l ANS wr) (fun wr=>KU (w.heap.size+1+1) n wr)
  case atStart=>exact hL0
  case round =>
   clear hL0
   rcases hrel with⟨f,j,s,hj,hf,hlp,hc,hb⟩ | ⟨kd,ps,j,s,hkd,hj,hans,hc,hb⟩
   ·obtain⟨y0,y1,y2,y3,y4⟩:=hc.rd.cells
    obtain⟨f,rfl⟩:∃ f',f=f'+1:=⟨f - 1,by omega⟩
    rw[zA] at hlp
    have hC:=fun W hc=>alN.out W j hc
    cases h93:aX l j 93 with
    | true =>
     rw[h93] at hC hlp
     simp only[if_true] at hC hlp
     subst hlp
     have HC:=ah hC
     clear hC
     cases t with
     | false =>
      go_wp2_with (go_at_call 276;go_must (refine(HC.out _ hc).mono ?_;rintro e w4 ⟨rfl,pG,hO4⟩;have hc4:=hc.step pG hO4;have hb4:=hO4.box hb (by omega);obtain⟨z0,z1,z2,z3,z4⟩:=hc4.rd.cells;obtain⟨⟨b0,b1,b2,b3⟩,⟨k0,k1,k2,k3⟩⟩:=hb4.jv))
      have HF:Hid (∀ v,Turns w.heap.size 113 (bT (s)) w4.drew v→CT w v g n cap fr (j+1) 0 0 l (s)∧Box v sB (bT (s)) 113):=ah fun v hl=>⟨((CT.of (s) hc4).turn NG (kM _ _ _ |>.later _ _ (Below.refl _ _).drew |> fun h0=>(kM _ _ _).trans _ _ _ h0 hl)),hl.keep.box (by show ¬ _;omega) hb4⟩
      refine aA (R:=Turns w.heap.size 113 (bT (s))) 7 (by kernel_rfl) ?_
      refine pl [0,1,2,3,4] ?_
      repeat
       refine dI ?_ rfl (fun w1 hl=>?_) ?_
       rotate_left
       ·obtain⟨x0,x1,x2,x3,x4⟩:=(HF.out w1 hl).1.rd.cells;obtain⟨⟨c0,c1,c2,c3⟩,_⟩:=(HF.out w1 hl).2.jv;go_simp;try with_reducible rfl
       simp only[eA,eB,eC,Act.put,eD,eE,eF]
      refine bU ?_
      refine aP (t:=7) (i:=5) (by kernel_rfl) rfl (fun w1 hl K hK=>?_)
      obtain⟨u,hu⟩:=(HF.out w1 hl).1.four
      obtain⟨⟨c0,c1,c2,c3⟩,⟨f0,f1,f2,f3⟩⟩:=hu.jv
      go_simp
      have kR:Turns w.heap.size 113 (bT (s)) w1 _:=Ac (v0:=.int .u64 (word (s) 0:Nat)) (v1:=.int .u64 (word (s) 1:Nat)) (v2:=.int .u64 (word (s) 2:Nat)) (v3:=.int .u64 (word (s) 3:Nat)) hu rfl
      have dA:=hu.eG rfl (.int .u64 (word (s) 0:Nat)) (.int .u64 (word (s) 1:Nat)) (.int .u64 (word (s) 2:Nat)) (.int .u64 (word (s) 3:Nat))
      have hl5:=(kM _ _ _).trans _ _ _ hl kR
      refine hK.out _ _ (fun _=>kR) ?_
      clear hK K c0 c1 c2 c3 f0 f1 f2 f3 hu hl kR
      refine jM 6 ?_ rfl (fun w1 hl=>?_) ?_
      rotate_left
      ·skip;go_simp;try with_reducible rfl
      simp only[eA,eB,eC,Act.put,eD,eE,eF]
      refine aP (t:=7) (i:=7) (by kernel_rfl) rfl (fun w1 hl K hK=>?_)
      have nN:=(HF.out w1 ((kM _ _ _).trans _ _ _ hl5 hl)).1
      have OE:=hl.fin dA
      have r0:=nN.x1.cell 0
      have r1:=nN.x1.cell 1
      have s0:=nN.x1.free 0
      have s1:=nN.x1.free 1
      go_simp
      refine hK.out _ _ (fun h=>absurd rfl h) ?_
      clear hK K
      refine aH (by kernel_rfl) (fun w1 hl=>?_) _
      have hE0:=hl.fin ((OE.other ⟨w.heap.size+1,0,none⟩ (.int .i64 0) (by simp)).other ⟨w.heap.size+1,1,none⟩ (.int .i64 0) (by simp))
      have hE1:=hl.keep.box (by show ¬ _;omega) ((nN.x1.set 0 (.int .i64 0)).set 1 (.int .i64 0))
      have hE2:=((nN.below.setCell (p:=⟨w.heap.size+1,0,none⟩) (by simp) (.int .i64 0)).setCell (p:=⟨w.heap.size+1,1,none⟩) (by simp) (.int .i64 0)).trans (hl.low (by simpa [World.setCell] using nN.below.size))
      go_wp2
      exact qH Tryz.results249 rfl rfl rfl hE0 hE1 Tryz.underlying113 rfl (by kernel_rfl) Tryz.underlying66 rfl (by kernel_rfl) rfl ⟨rfl,hE2⟩
     | true =>
      go_wp2_with (first | (go_at_call 276;go_must (refine(HC.out _ hc).mono ?_;rintro e w4 ⟨rfl,pG,hO4⟩;have hc4:=hc.step pG hO4;have hb4:=hO4.box hb (by omega);obtain⟨z0,z1,z2,z3,z4⟩:=hc4.rd.cells;obtain⟨⟨b0,b1,b2,b3⟩,⟨k0,k1,k2,k3⟩⟩:=hb4.jv)) | (go_at_call 254;go_must (refine(QH s _).mono ?_;rintro e w5 ⟨rfl,bF⟩;have hc5:=hc4.kept bF;have hb5:=hb4.kept bF;obtain⟨⟨d0,d1,d2,d3⟩,⟨m0,m1,m2,m3⟩⟩:=hb5.jv)))
      have hc6:=hc5.eG hsB hg (.int .u64 (word (~~~s) 0:Nat)) (.int .u64 (word (~~~s) 1:Nat)) (.int .u64 (word (~~~s) 2:Nat)) (.int .u64 (word (~~~s) 3:Nat))
      have hb6:=hb5.eG rfl (.int .u64 (word (~~~s) 0:Nat)) (.int .u64 (word (~~~s) 1:Nat)) (.int .u64 (word (~~~s) 2:Nat)) (.int .u64 (word (~~~s) 3:Nat))
      clear d0 d1 d2 d3 m0 m1 m2 m3 hc5 hb5 bF hc4 hb4 pG hO4 z0 z1 z2 z3 z4 b0 b1 b2 b3 k0 k1 k2 k3
      generalize ((((w5.setCell ⟨sB,0,none⟩ (.int .u64 (word (~~~s) 0:Nat))).setCell ⟨sB,1,none⟩ (.int .u64 (word (~~~s) 1:Nat))).setCell ⟨sB,2,none⟩ (.int .u64 (word (~~~s) 2:Nat))).setCell ⟨sB,3,none⟩ (.int .u64 (word (~~~s) 3:Nat)))=w6 at *
      have HF:Hid (∀ v,Turns w.heap.size 113 (bT (~~~s)) w6.drew v→CT w v g n cap fr (j+1) 0 0 l (~~~s)∧Box v sB (bT (~~~s)) 113):=ah fun v hl=>⟨((CT.of (~~~s) hc6).turn NG (kM _ _ _ |>.later _ _ (Below.refl _ _).drew |> fun h0=>(kM _ _ _).trans _ _ _ h0 hl)),hl.keep.box (by show ¬ _;omega) hb6⟩
      refine aA (R:=Turns w.heap.size 113 (bT (~~~s))) 7 (by kernel_rfl) ?_
      refine pl [0,1,2,3,4] ?_
      repeat
       refine dI ?_ rfl (fun w1 hl=>?_) ?_
       rotate_left
       ·obtain⟨x0,x1,x2,x3,x4⟩:=(HF.out w1 hl).1.rd.cells;obtain⟨⟨c0,c1,c2,c3⟩,_⟩:=(HF.out w1 hl).2.jv;go_simp;try with_reducible rfl
       simp only[eA,eB,eC,Act.put,eD,eE,eF]
      refine bU ?_
      refine aP (t:=7) (i:=5) (by kernel_rfl) rfl (fun w1 hl K hK=>?_)
      obtain⟨u,hu⟩:=(HF.out w1 hl).1.four
      obtain⟨⟨c0,c1,c2,c3⟩,⟨f0,f1,f2,f3⟩⟩:=hu.jv
      go_simp
      have kR:Turns w.heap.size 113 (bT (~~~s)) w1 _:=Ac (v0:=.int .u64 (word (~~~s) 0:Nat)) (v1:=.int .u64 (word (~~~s) 1:Nat)) (v2:=.int .u64 (word (~~~s) 2:Nat)) (v3:=.int .u64 (word (~~~s) 3:Nat)) hu rfl
      have dA:=hu.eG rfl (.int .u64 (word (~~~s) 0:Nat)) (.int .u64 (word (~~~s) 1:Nat)) (.int .u64 (word (~~~s) 2:Nat)) (.int .u64 (word (~~~s) 3:Nat))
      have hl5:=(kM _ _ _).trans _ _ _ hl kR
      refine hK.out _ _ (fun _=>kR) ?_
      clear hK K c0 c1 c2 c3 f0 f1 f2 f3 hu hl kR
      refine jM 6 ?_ rfl (fun w1 hl=>?_) ?_
      rotate_left
      ·skip;go_simp;try with_reducible rfl
      simp only[eA,eB,eC,Act.put,eD,eE,eF]
      refine aP (t:=7) (i:=7) (by kernel_rfl) rfl (fun w1 hl K hK=>?_)
      have nN:=(HF.out w1 ((kM _ _ _).trans _ _ _ hl5 hl)).1
      have OE:=hl.fin dA
      have r0:=nN.x1.cell 0
      have r1:=nN.x1.cell 1
      have s0:=nN.x1.free 0
      have s1:=nN.x1.free 1
      go_simp
      refine hK.out _ _ (fun h=>absurd rfl h) ?_
      clear hK K
      refine aH (by kernel_rfl) (fun w1 hl=>?_) _
      have hE0:=hl.fin ((OE.other ⟨w.heap.size+1,0,none⟩ (.int .i64 0) (by simp)).other ⟨w.heap.size+1,1,none⟩ (.int .i64 0) (by simp))
      have hE1:=hl.keep.box (by show ¬ _;omega) ((nN.x1.set 0 (.int .i64 0)).set 1 (.int .i64 0))
      have hE2:=((nN.below.setCell (p:=⟨w.heap.size+1,0,none⟩) (by simp) (.int .i64 0)).setCell (p:=⟨w.heap.size+1,1,none⟩) (by simp) (.int .i64 0)).trans (hl.low (by simpa [World.setCell] using nN.below.size))
      go_wp2
      exact qH Tryz.results249 rfl rfl rfl hE0 hE1 Tryz.underlying113 rfl (by kernel_rfl) Tryz.underlying66 rfl (by kernel_rfl) rfl ⟨rfl,hE2⟩
    | false =>
     rw[h93] at hC hlp
     simp only[Bool.false_eq_true,if_false] at hC hlp
     have HC:=ah hC
     have hnext:∀ (s1:au) (j1 wP ps1:Nat) (W:World),j1≤n→((wP=0∧ps1=0∧∃ q,iP l fr j=.inr (q,j1)∧s1=gW q.1 q.2)∨(wP≠0∧iP l fr j=.inl (wP,ps1)))→CR w W g n cap fr j1 wP ps1 l→Box W sB (bT (s ||| s1)) 113→Xp w g n cap fr sB l ANS W:=by
      intro s1 j1 wP ps1 W hj1 hor hc1 hb1
      rcases hor with⟨rfl,rfl,q,hq,rfl⟩ | ⟨h1,hq⟩
      ·have hup:=Ec hq
       rw[hq] at hlp
       exact .inl ⟨f,j1,_,hj1,by omega,hlp,hc1,hb1⟩
      ·rw[hq] at hlp
       exact .inr ⟨wP,ps1,j1,_,h1,hj1,hlp.symm,hc1,hb1⟩
     have aek:∀ (s1:au) (j1 wP ps1:Nat) (W:World),j1≤n→((wP=0∧ps1=0∧∃ q,iP l fr j=.inr (q,j1)∧s1=gW q.1 q.2)∨(wP≠0∧iP l fr j=.inl (wP,ps1)))→CR w W g n cap fr j1 wP ps1 l→KU (w.heap.size+1+1) n W<KU (w.heap.size+1+1) n wr:=by
      intro s1 j1 wP ps1 W hj1 hor hc1
      rw[RD hc1,RD hc,if_pos rfl]
      rcases hor with⟨rfl,rfl,q,hq,rfl⟩ | ⟨h1,hq⟩
      ·have hup:=Ec hq
       rw[if_pos rfl]
       omega
      ·rw[if_neg h1]
       omega
     have HN:=ah hnext
     have HM:=ah aek
     clear hC hnext aek hlp h93
     go_wp2_with (go_at_call 276;go_must (refine(HC.out _ hc).mono ?_;rintro e w4 ⟨rfl,pG,hO4⟩;have hc4:=hc.step pG hO4;have hb4:=hO4.box hb (by omega)))
     have hc4:=hc4.kept (Below.refl _ _).drew
     have hb4:=hb4.kept (Below.refl _ _).drew
     obtain⟨⟨b0,b1,b2,b3⟩,_⟩:=hb4.jv
     refine UQ (by kernel_rfl) ?_
     refine Zw (i:=0) (j:=1) (by kernel_rfl) rfl rfl (fun K hK=>?_) (fun K hK=>?_)
     ·go_simp
      refine hK.out _ _ ?_
      clear hK K
      refine oO (i:=1) (by kernel_rfl) rfl (fun K hK=>?_)
      go_simp
      refine(HI.out _ _ hc4 hj).mono ?_
      rintro e w5 ⟨s1,j1,wP,ps1,hj1,⟨rfl,gI,jO⟩,hor⟩
      have hc5:=hc4.step gI jO
      have hb5:=jO.box hb4 (by omega)
      refine hK.out _ _ ?_
      clear hK K b0 b1 b2 b3
      refine oO (i:=2) (by kernel_rfl) rfl (fun K hK=>?_)
      go_simp
      refine hK.out _ _ ?_
      clear hK K
      have hsl:=Nj w5 s s1 113
      have hU:=fun w1 h=>D7 (some ⟨w5.heap.size,0,none⟩) 2 [s,s1] w1 h
      rw[Qp] at hU
      have HU:=ah hU
      clear hU
      have hc6:=hc5.kept (aj w5 (.cells #[.int .u64 (word s 0:Nat),.int .u64 (word s 1:Nat),.int .u64 (word s 2:Nat),.int .u64 (word s 3:Nat),.int .u64 (word s1 0:Nat),.int .u64 (word s1 1:Nat),.int .u64 (word s1 2:Nat),.int .u64 (word s1 3:Nat)] 113))
      have hb6:=hb5.kept (aj w5 (.cells #[.int .u64 (word s 0:Nat),.int .u64 (word s 1:Nat),.int .u64 (word s 2:Nat),.int .u64 (word s 3:Nat),.int .u64 (word s1 0:Nat),.int .u64 (word s1 1:Nat),.int .u64 (word s1 2:Nat),.int .u64 (word s1 3:Nat)] 113))
      refine oO (i:=3) (by kernel_rfl) rfl (fun K hK=>?_)
      go_simp
      refine(HU.out _ hsl).mono ?_
      rintro e w7 ⟨rfl,lU⟩
      refine hK.out _ _ ?_
      clear hK K
      have FV:=hc6.kept lU
      have hb7:=hb6.kept lU
      obtain⟨⟨c0,c1,c2,c3⟩,⟨f0,f1,f2,f3⟩⟩:=hb7.jv
      refine oO (i:=4) (by kernel_rfl) rfl (fun K hK=>?_)
      go_simp
      refine hK.out _ _ ?_
      clear hK K
      refine wpAny_done (by kernel_rfl) ?_ _
      have hc8:=FV.eG hsB hg (.int .u64 (word (s ||| s1) 0:Nat)) (.int .u64 (word (s ||| s1) 1:Nat)) (.int .u64 (word (s ||| s1) 2:Nat)) (.int .u64 (word (s ||| s1) 3:Nat))
      have hb8:=hb7.eG rfl (.int .u64 (word (s ||| s1) 0:Nat)) (.int .u64 (word (s ||| s1) 1:Nat)) (.int .u64 (word (s ||| s1) 2:Nat)) (.int .u64 (word (s ||| s1) 3:Nat))
      go_wp2
      go_roundw
      case rel=>exact HN.out s1 j1 wP ps1 _ hj1 hor hc8 hb8
      case measure=>exact HM.out s1 j1 wP ps1 _ hj1 hor hc8
     ·go_simp
      refine(HI.out _ _ hc4 hj).mono ?_
      rintro e w5 ⟨s1,j1,wP,ps1,hj1,⟨rfl,gI,jO⟩,hor⟩
      have hc5:=hc4.step gI jO
      have hb5:=jO.box hb4 (by omega)
      refine hK.out _ _ ?_
      clear hK K b0 b1 b2 b3
      obtain⟨⟨b0,b1,b2,b3⟩,_⟩:=hb5.jv
      refine oO (i:=0) (by kernel_rfl) rfl (fun K hK=>?_)
      go_simp
      refine hK.out _ _ ?_
      clear hK K b0 b1 b2 b3
      refine oO (i:=2) (by kernel_rfl) rfl (fun K hK=>?_)
      go_simp
      refine hK.out _ _ ?_
      clear hK K
      have hsl:=Nj w5 s s1 113
      have hU:=fun w1 h=>D7 (some ⟨w5.heap.size,0,none⟩) 2 [s,s1] w1 h
      rw[Qp] at hU
      have HU:=ah hU
      clear hU
      have hc6:=hc5.kept (aj w5 (.cells #[.int .u64 (word s 0:Nat),.int .u64 (word s 1:Nat),.int .u64 (word s 2:Nat),.int .u64 (word s 3:Nat),.int .u64 (word s1 0:Nat),.int .u64 (word s1 1:Nat),.int .u64 (word s1 2:Nat),.int .u64 (word s1 3:Nat)] 113))
      have hb6:=hb5.kept (aj w5 (.cells #[.int .u64 (word s 0:Nat),.int .u64 (word s 1:Nat),.int .u64 (word s 2:Nat),.int .u64 (word s 3:Nat),.int .u64 (word s1 0:Nat),.int .u64 (word s1 1:Nat),.int .u64 (word s1 2:Nat),.int .u64 (word s1 3:Nat)] 113))
      refine oO (i:=3) (by kernel_rfl) rfl (fun K hK=>?_)
      go_simp
      refine(HU.out _ hsl).mono ?_
      rintro e w7 ⟨rfl,lU⟩
      refine hK.out _ _ ?_
      clear hK K
      have FV:=hc6.kept lU
      have hb7:=hb6.kept lU
      obtain⟨⟨c0,c1,c2,c3⟩,⟨f0,f1,f2,f3⟩⟩:=hb7.jv
      refine oO (i:=4) (by kernel_rfl) rfl (fun K hK=>?_)
      go_simp
      refine hK.out _ _ ?_
      clear hK K
      refine wpAny_done (by kernel_rfl) ?_ _
      have hc8:=FV.eG hsB hg (.int .u64 (word (s ||| s1) 0:Nat)) (.int .u64 (word (s ||| s1) 1:Nat)) (.int .u64 (word (s ||| s1) 2:Nat)) (.int .u64 (word (s ||| s1) 3:Nat))
      have hb8:=hb7.eG rfl (.int .u64 (word (s ||| s1) 0:Nat)) (.int .u64 (word (s ||| s1) 1:Nat)) (.int .u64 (word (s ||| s1) 2:Nat)) (.int .u64 (word (s ||| s1) 3:Nat))
      go_wp2
      go_roundw
      case rel=>exact HN.out s1 j1 wP ps1 _ hj1 hor hc8 hb8
      case measure=>exact HM.out s1 j1 wP ps1 _ hj1 hor hc8
   ·obtain⟨y0,y1,y2,y3,y4⟩:=hc.rd.cells
    have e1:((kd:Int)==0)=false:=by simp;omega
    have e2:((kd:Int) != 0)=true:=by simp;omega
    subst hans
    go_wp2_with fail
    clear y0 y1 y2 y3 y4
    have HF:Hid (∀ v,Turns w.heap.size 113 (bT 0) wr.drew v→CT w v g n cap fr j kd ps l 0):=ah fun v hl=>((CT.of 0 hc).turn NG (kM _ _ _ |>.later _ _ (Below.refl _ _).drew |> fun h0=>(kM _ _ _).trans _ _ _ h0 hl))
    refine aA (R:=Turns w.heap.size 113 (bT 0)) 5 (by kernel_rfl) ?_
    refine pl [0,1,2] ?_
    repeat
     refine dI ?_ rfl (fun w1 hl=>?_) ?_
     rotate_left
     ·obtain⟨x0,x1,x2,x3,x4⟩:=(HF.out w1 hl).rd.cells;go_simp;try with_reducible rfl
     simp only[eA,eB,eC,Act.put,eD,eE,eF]
    refine bU ?_
    refine aP (t:=5) (i:=3) (by kernel_rfl) rfl (fun w1 hl K hK=>?_)
    obtain⟨u,hu⟩:=(HF.out w1 hl).four
    obtain⟨⟨c0,c1,c2,c3⟩,⟨f0,f1,f2,f3⟩⟩:=hu.jv
    go_simp
    have kR:=Ac (v0:=.int .u64 0) (v1:=.int .u64 0) (v2:=.int .u64 0) (v3:=.int .u64 0) hu rfl
    have dA:=hu.eG rfl (.int .u64 0) (.int .u64 0) (.int .u64 0) (.int .u64 0)
    rw[←gG] at kR dA
    have hl5:=(kM _ _ _).trans _ _ _ hl kR
    refine hK.out _ _ (fun _=>kR) ?_
    clear hK K c0 c1 c2 c3 f0 f1 f2 f3 hu hl kR
    refine jM 4 ?_ rfl (fun w1 hl=>?_) ?_
    rotate_left
    ·skip;go_simp;try with_reducible rfl
    simp only[eA,eB,eC,Act.put,eD,eE,eF]
    refine aP (t:=5) (i:=5) (by kernel_rfl) rfl (fun w1 hl K hK=>?_)
    have nN:=HF.out w1 ((kM _ _ _).trans _ _ _ hl5 hl)
    have OE:=hl.fin dA
    have r0:=nN.x1.cell 0
    have r1:=nN.x1.cell 1
    have s0:=nN.x1.free 0
    have s1:=nN.x1.free 1
    go_simp
    refine hK.out _ _ (fun h=>absurd rfl h) ?_
    clear hK K
    refine aH (by kernel_rfl) (fun w1 hl=>?_) _
    have hE0:=hl.fin ((OE.other ⟨w.heap.size+1,0,none⟩ (.int .i64 kd) (by simp)).other ⟨w.heap.size+1,1,none⟩ (.int .i64 ps) (by simp))
    have hE1:=hl.keep.box (by show ¬ _;omega) ((nN.x1.set 0 (.int .i64 kd)).set 1 (.int .i64 ps))
    have hE2:=((nN.below.setCell (p:=⟨w.heap.size+1,0,none⟩) (by simp) (.int .i64 kd)).setCell (p:=⟨w.heap.size+1,1,none⟩) (by simp) (.int .i64 ps)).trans (hl.low (by simpa [World.setCell] using nN.below.size))
    go_wp2
    exact qH Tryz.results249 rfl rfl rfl hE0 hE1 Tryz.underlying113 rfl (by kernel_rfl) Tryz.underlying66 rfl (by kernel_rfl) rfl ⟨rfl,hE2⟩
end
section
open Go.RowKit
structure Lx where
 kind:Nat
 at':Nat
 set:au
 lo:Int
 hi:Int
def mX(c:Nat):Nat:=if c=40 then 2 else if c=41 then 3 else if c=124 then 4 else if c=42 then 5 else if c=43 then 6 else if c=63 then 7 else 0
def takeN(most:Nat)(l:List UInt8)(p:Nat):Option (Nat×Nat) :=
 if H8 ((l.drop p).take (iW (l.drop p))) then (qW most 0 ((l.drop p).take (iW (l.drop p)))).map fun v=>(v,p+iW (l.drop p)) else none
def yQ(l:List UInt8)(i:Nat):Sum (Nat×Nat) ((Int×Int)×Nat) :=
 match takeN 1000 l (i+1) with
 | none=>.inl (16,i)
 | some (lo,p) =>
  if aX l p 44=true then
   if aX l (p+1) 125=true then .inr ((lo,-1),p+2)
   else match takeN 1000 l (p+1) with
    | none=>.inl (16,i)
    | some (hi,q)=>if aX l q 125=true then (if hi<lo then .inl (15,i) else .inr ((lo,hi),q+1)) else .inl (16,i)
  else if aX l p 125=true then .inr ((lo,lo),p+1) else .inl (16,i)
def Ju:au := ~~~(nM [10])
def OG(_:List UInt8):Prop:=True
theorem OG.of{l m:List UInt8}(_:OG l)(_:∀ b∈m,b∈l):OG m:=trivial
def mY(l:List UInt8)(i:Nat):Sum (Nat×Nat) (Lx×Nat) :=
 let c:=(l.getD i 0).toNat
 if c=92 then (match mM l i with | .inl q=>.inl q | .inr (x,j)=>.inr (⟨1,i,nM [x],0,0⟩,j))
 else if c=91 then (match oG l i with | .inl q=>.inl q | .inr (s,j)=>.inr (⟨1,i,s,0,0⟩,j))
 else if c=123 then (match yQ l i with | .inl q=>.inl q | .inr (q,j)=>.inr (⟨8,i,0,q.1,q.2⟩,j))
 else if c=46 then .inr (⟨1,i,Ju,0,0⟩,i+1)
 else if c=93∨c=125∨c=10 then .inl (3,i)
 else if mX c=0 then .inr (⟨1,i,nM [c],0,0⟩,i+1) else .inr (⟨mX c,i,0,0,0⟩,i+1)
def lexFrom(l:List UInt8):Nat→Nat→List Lx→Sum (Nat×Nat) (List Lx)
 | 0,_,acc=>.inr acc
 | n+1,i,acc=>if i<l.length then (match mY l i with | .inl q=>.inl q | .inr (x,j)=>lexFrom l n j (acc++[x])) else .inr acc
def jP(l:List UInt8):Sum (Nat×Nat) (List Lx):=if 65536<l.length then .inl (4,65536) else lexFrom l (l.length+1) 0 []
def Bl(k:Int):List Tr→Tr
 | [x]=>x
 | l=>.mk k 0 l 0 0
def dL:List Lx→Tr→Tr×List Lx
 | [],x=>(x,[])
 | a::r,x=>if a.kind=5 then dL r (.mk 6 0 [x] 0 0) else if a.kind=6 then dL r (.mk 7 0 [x] 0 0) else if a.kind=7 then dL r (.mk 8 0 [x] 0 0)
  else if a.kind=8 then dL r (.mk 9 0 [x] a.lo a.hi) else (x,a::r)
mutual
def jd:Nat→Nat→List Tr→List Lx→Option (Sum (Nat×Nat) (Tr×List Lx))
 | 0,_,_,_=>none
 | n+1,d,parts,L=>match jK n d [] L with
  | none=>none
  | some (.inl q)=>some (.inl q)
  | some (.inr (x,r))=>match r with
   | a::r'=>if a.kind=4 then jd n d (parts++[x]) r' else some (.inr (Bl 5 (parts++[x]),a::r'))
   | []=>some (.inr (Bl 5 (parts++[x]),[]))
def jK:Nat→Nat→List Tr→List Lx→Option (Sum (Nat×Nat) (Tr×List Lx))
 | 0,_,_,_=>none
 | n+1,d,pieces,L=>match kX n d L with
  | none=>none
  | some (.inl q)=>some (.inl q)
  | some (.inr (some (x,r)))=>jK n d (pieces++[(dL r x).1]) (dL r x).2
  | some (.inr none)=>some (.inr (if pieces.length=0 then .mk 2 0 [] 0 0 else Bl 4 pieces,L))
def kX:Nat→Nat→List Lx→Option (Sum (Nat×Nat) (Option (Tr×List Lx)))
 | 0,_,_=>none
 | n+1,d,L=>match L with
  | []=>some (.inr none)
  | a::r =>
   if a.kind=1 then some (.inr (some (.mk 3 a.set [] 0 0,r)))
   else if a.kind=2 then
    (if d=64 then some (.inl (17,a.at')) else match jd n (d+1) [] r with
     | none=>none
     | some (.inl q)=>some (.inl q)
     | some (.inr (x,b::r'))=>if b.kind=3 then some (.inr (some (x,r'))) else some (.inl (11,a.at'))
     | some (.inr (_,[]))=>some (.inl (11,a.at')))
   else if a.kind=5∨a.kind=6∨a.kind=7∨a.kind=8 then some (.inl (5,a.at'))
   else if a.kind=3∧d=0 then some (.inl (12,a.at'))
   else some (.inr none)
end
def tZ(n:Nat)(l:List UInt8):Option (Sum (Nat×Nat) Tr) :=
 match jP l with
 | .inl q=>some (.inl q)
 | .inr L=>if 1024<L.length then some (.inl (4,(L.getD 1024 ⟨0,0,0,0,0⟩).at')) else (jd n 0 [] L).map fun r=>match r with | .inl q=>.inl q | .inr (x,_)=>.inr x
def zB(n:Nat)(have':List (List UInt8))(s:List UInt8):Option (Sum (Nat×Nat) (List UInt8×Tr)) :=
 let k:=runFrom true s
 if have'.length=64 then some (.inl (18,0)) else if k=0 then some (.inl (9,0)) else if 32<k then some (.inl (9,32))
 else if aX s k 58=false then some (.inl (10,k))
 else if have'.contains (s.take k) then some (.inl (8,0))
 else (tZ n (s.drop (k+1))).map fun r=>match r with | .inl q=>.inl (q.1,q.2+(k+1)) | .inr x=>.inr (s.take k,x)
end
section
open Go.RowKit
theorem Zx(b o cap n p:Nat)(l:List UInt8)(w:World)(h:ak w (.slice (some ⟨b,o,none⟩) n cap) 1 bK l)(hp:p≤n) :
  Calls Tryz.prog 278 #[.slice (some ⟨b,o,none⟩) n cap,.int .i64 p] w (aY w (.int .i64 (iW (l.drop p):Nat))):=by
 obtain⟨hlen,hcap,hcap',hcell⟩:=h.cellsA
 have hnn:n≤9223372036854775807:=by omega
 have hcc:n≤cap:=by omega
 have hpc:(p:Int)≤(cap:Int):=by omega
 have hpn:(p:Int)≤(n:Int):=by omega
 have hp0:(0:Int)≤(p:Int):=by omega
 obtain⟨q,hif,hof⟩:∃ q:Nat,(if cap=p then some (⟨b,o,none⟩:Addr) else some ⟨b,o+p,none⟩)=some ⟨b,q,none⟩∧(p<n→q=o+p):=by
  by_cases h1:cap=p
  ·exact⟨o,by rw[if_pos h1],by omega⟩
  ·exact⟨o+p,by rw[if_neg h1],fun _=>rfl⟩
 have HC:=ah hcell
 have HL:=ah hlen
 have HQ:=ah hof
 obtain⟨m,hm⟩:∃ m,n - p=m:=⟨_,rfl⟩
 have hmi:(n:Int) - (p:Int)=(m:Int):=by omega
 have hm63:m≤9223372036854775807:=by omega
 have HM:=ah hm
 clear hlen hcell h hcap hof hm
 go_enter Tryz.func278,Tryz.ntmps278
 go_wp2
 go_loopw [5,12] (fun v i wr=>∃ k:Nat,k≤m∧v=.int .i64 k∧i=.int .i64 k∧iW (l.drop p)=k+iW (l.drop (p+k))∧Below w.heap.size w wr) (fun _ i _=>m - (intOf i).toNat)
 case atStart=>exact⟨0,Nat.zero_le _,rfl,rfl,by simp,Below.refl _ _⟩
 case round =>
  obtain⟨k,hk,rfl,rfl,hr,hB⟩:=hrel
  by_cases hlt:k<m
  ·have hk2:p+k<l.length:=by rw[←HL.out];have:=HM.out;omega
   have c0:=HC.out (p+k) hk2 wr hB
   have hq:=HQ.out (by have:=HM.out;omega)
   rw[show o+(p+k)=q+k by omega] at c0
   rw[drop_at l (p+k) hk2,iW] at hr
   generalize l[p+k]=c at *
   have hc256:=c.toNat_lt
   unfold gV at hr
   have hB2:=ah hq
   clear hq
   by_cases d1:c.toNat<48
   ·have e1:decide ((c.toNat:Int)<48)=true:=by simp;omega
    rw[if_neg (by simp;omega)] at hr
    have HR:=ah hr
    clear hr
    go_wp2
    go_ret
    exact⟨by rw[HR.out];rfl,hB⟩
   ·have e1:decide ((c.toNat:Int)<48)=false:=by simp;omega
    by_cases d2:57<c.toNat
    ·have e2:decide (57<(c.toNat:Int))=true:=by simp;omega
     rw[if_neg (by simp;omega)] at hr
     have HR:=ah hr
     clear hr
     go_wp2
     go_ret
     exact⟨by rw[HR.out];rfl,hB⟩
    ·have e2:decide (57<(c.toNat:Int))=false:=by simp;omega
     rw[if_pos (by simp;omega)] at hr
     have HR:=ah hr
     clear hr
     go_wp2
     go_roundw
     case rel=>exact⟨k+1,hlt,by go_num,by go_num,by rw[HR.out,show p+(k+1)=p+k+1 by omega];omega,hB⟩
     case measure=>simp[intOf];omega
  ·obtain rfl:k=m:=by omega
   rw[show l.drop (p+k)=[] from List.drop_eq_nil_of_le (by rw[←HL.out];have:=HM.out;omega),show iW []=0 from rfl] at hr
   have HR:=ah hr
   clear hr
   go_wp2
   go_ret
   exact⟨by rw[HR.out];rfl,hB⟩
end
section
open Go.RowKit
def fV(x:Lx):List Value:=[.int .i64 x.kind,.int .i64 x.at',.int .u64 (word x.set 0:Nat),.int .u64 (word x.set 1:Nat),.int .u64 (word x.set 2:Nat),.int .u64 (word x.set 3:Nat),.int .i64 x.lo,.int .i64 x.hi]
theorem xC:fB fV 8:=⟨fun _=>rfl,fun x u hu=>by
 simp[fV] at hu
 rcases hu with rfl | rfl | rfl | rfl | rfl | rfl | rfl | rfl <;> rfl⟩
theorem acG:dQ Tryz.prog 216 221 (.agg #[.int .i64 0,.int .i64 0,.int .u64 0,.int .u64 0,.int .u64 0,.int .u64 0,.int .i64 0,.int .i64 0]) 8 64:=⟨Tryz.underlying216,info_parts (by kernel_rfl),rfl,by decide⟩
theorem Jv:(Tryz.prog.info? 221).map (·.size)=some 8:=by kernel_rfl
def spC(g:Nat×Nat)(n cap i:Nat)(v:Value)(k p:Nat):Array Value:=#[.slice (some ⟨g.1,g.2,none⟩) n cap,.int .i64 i,v,.int .i64 k,.int .i64 p]
structure bJ(w:World)(r qB:Nat)(g:Nat×Nat)(n cap i:Nat)(l:List UInt8)(X:List Lx)(v:Value)(k p:Nat):Prop where
 box:Box w r (spC g n cap i v k p) 271
 sl:ak w (.slice (some ⟨g.1,g.2,none⟩) n cap) 1 bK l
 out:Own w qB 221 8 fV v X
 ne:g.1≠r
 lt:g.1<qB
theorem bJ.kept{w w':World}{r qB:Nat}{g:Nat×Nat}{n cap i:Nat}{l:List UInt8}{X:List Lx}{v:Value}{k p:Nat}(h:bJ w r qB g n cap i l X v k p)(hb:Below w.heap.size w w'):bJ w' r qB g n cap i l X v k p :=
 ⟨h.box.kept hb,h.sl.kept hb,h.out.kept hb,h.ne,h.lt⟩
theorem bJ.cells{w:World}{r qB:Nat}{g:Nat×Nat}{n cap i:Nat}{l:List UInt8}{X:List Lx}{v:Value}{k p:Nat}(h:bJ w r qB g n cap i l X v k p) :
  w.cell? ⟨r,0,none⟩=some (.slice (some ⟨g.1,g.2,none⟩) n cap)∧w.cell? ⟨r,1,none⟩=some (.int .i64 i)∧w.cell? ⟨r,2,none⟩=some v∧w.cell? ⟨r,3,none⟩=some (.int .i64 k)∧w.cell? ⟨r,4,none⟩=some (.int .i64 p) :=
 ⟨h.box.cell 0,h.box.cell 1,h.box.cell 2,h.box.cell 3,h.box.cell 4⟩
def mZ(r qB:Nat)(g:Nat×Nat)(n cap i:Nat)(l:List UInt8)(X:List Lx)(k p:Nat)(w:World)(u:Value)(e:Ending)(w':World):Prop :=
 e=.returned u∧(∃ a c,bJ w' r qB g n cap i l X (.slice a X.length c) k p)∧ay r qB w w'
theorem bJ.form{w:World}{r qB:Nat}{g:Nat×Nat}{n cap i:Nat}{l:List UInt8}{X:List Lx}{v:Value}{k p:Nat}(h:bJ w r qB g n cap i l X v k p):∃ a c,v=.slice a X.length c:=h.out.form
theorem bJ.FW{w:World}{r qB:Nat}{g:Nat×Nat}{n cap i:Nat}{l:List UInt8}{X:List Lx}{v:Value}{k p:Nat}(h:bJ w r qB g n cap i l X v k p)(j:Nat)(u:Value) :
  ak (w.setCell ⟨r,j,none⟩ u) (.slice (some ⟨g.1,g.2,none⟩) n cap) 1 bK l:=(ay.set (qB:=qB) w j u).cells.slice h.sl (fun _ ad e=>by cases e;show ¬ (g.1=r∨qB≤g.1);have:=h.ne;have:=h.lt;omega)
theorem bJ.place{w:World}{r qB:Nat}{g:Nat×Nat}{n cap i:Nat}{l:List UInt8}{X:List Lx}{v:Value}{k p:Nat}(h:bJ w r qB g n cap i l X v k p)(hr:r<qB)(j:Nat):bJ (w.setCell ⟨r,1,none⟩ (.int .i64 (j:Nat))) r qB g n cap j l X v k p :=
 ⟨h.box.set 1 _,h.FW 1 _,h.out.other _ _ hr,h.ne,h.lt⟩
theorem bJ.fault{w:World}{r qB:Nat}{g:Nat×Nat}{n cap i:Nat}{l:List UInt8}{X:List Lx}{v:Value}{k p:Nat}(h:bJ w r qB g n cap i l X v k p)(hr:r<qB)(k' p':Nat) :
  bJ ((w.setCell ⟨r,3,none⟩ (.int .i64 (k':Nat))).setCell ⟨r,4,none⟩ (.int .i64 (p':Nat))) r qB g n cap i l X v k' p' :=
 ⟨(h.box.set 3 _).set 4 _,(bJ.FW ⟨h.box.set 3 (.int .i64 (k':Nat)),h.FW 3 _,h.out.other _ _ hr,h.ne,h.lt⟩ (k:=k') (p:=p) 4 _),(h.out.other _ _ hr).other _ _ hr,h.ne,h.lt⟩
theorem bJ.append{w w' w2:World}{r qB:Nat}{g:Nat×Nat}{n cap i:Nat}{l:List UInt8}{X:List Lx}{v:Value}{k p:Nat}{a':Option Addr}{n' c':Nat}{x:Lx}(h:bJ w r qB g n cap i l X v k p)(hr:r<qB)(hg:w.grownBy w' v.ownBlock)
  (ho:Own w' qB 221 8 fV (.slice a' n' c') (X++[x])) (hl:Below w'.heap.size w' w2):bJ (w2.setCell ⟨r,2,none⟩ (.slice a' n' c')) r qB g n cap i l (X++[x]) (.slice a' n' c') k p:=by
 have hb:=(h.box.lS h.out hg (by decide)).kept hl
 have hs:ak w' (.slice (some ⟨g.1,g.2,none⟩) n cap) 1 bK l:=(aQ.grown (X:=fun b=>qB≤b) h.out hg (fun _ h=>h)).slice h.sl (fun _ ad e=>by cases e;show ¬ qB≤g.1;have:=h.lt;omega)
 exact⟨hb.set 2 _,(ay.set (qB:=qB) w2 2 _).cells.slice (hs.kept hl) (fun _ ad e=>by cases e;show ¬ (g.1=r∨qB≤g.1);have:=h.ne;have:=h.lt;omega),(ho.kept hl).other _ _ hr,h.ne,h.lt⟩
theorem ag0(r qB:Nat)(g:Nat×Nat)(n cap i:Nat)(l:List UInt8)(X:List Lx)(v:Value)(k p:Nat)(x:Lx)(next:Nat)(w:World)(h:bJ w r qB g n cap i l X v k p)(hr:r<qB)(hb:qB≤w.heap.size)(hX:X.length≤4294967296) :
  Calls Tryz.prog 253 #[.pointer (some ⟨r,0,none⟩),.agg (fV x).toArray,.int .i64 next] w (mZ r qB g n cap next l (X++[{ x with at':=i }]) k p w (.tuple #[])):=by
 have h1:=h.kept (aj w (.cells (fV x).toArray 221))
 obtain⟨x0,x1,x2,x3,x4⟩:=h1.cells
 obtain⟨x',hx'⟩:∃ x':Lx,{ x with at':=i }=x':=⟨_,rfl⟩
 have he:(fV x).set 1 (.int .i64 i)=fV x':=by rw[←hx'];rfl
 rw[hx']
 have hx2:=Box.new w (fV x').toArray 221
 have h2:=h.kept (aj w (.cells (fV x').toArray 221))
 have hk2:=ay.below (qB:=qB) (by omega:r≤w.heap.size) (aj w (.cells (fV x').toArray 221))
 have hW:(w.alloc (.cells (fV x').toArray 221)).heap.size=w.heap.size+1:=by simp
 go_enter Tryz.func253,Tryz.ntmps253
 go_wp2_with fail
 generalize (w.alloc (.cells (fV x').toArray 221))=W2 at *
 clear h1 x0 x1 x2 x3 x4 he hx'
 have HF:Hid (∀ u,Later W2.drew u→bJ u r qB g n cap i l X v k p∧Box u w.heap.size (fV x').toArray 221∧ay r qB w u):=ah fun u hl =>
  ⟨(h2.kept (Below.refl _ _).drew).kept hl,hx2.drew.kept hl,hk2.trans ((ay.below (qB:=qB) (by omega) (Below.refl W2.heap.size W2).drew).trans (ay.below (by show r≤W2.heap.size;omega) hl))⟩
 clear h2 hx2 hk2
 refine jq (R:=Later) [7,10] (by kernel_rfl) ?_
 refine DZ (T:=[7,10]) (i:=5) rfl (by kernel_rfl) (by kernel_rfl) (by kernel_rfl) (by kernel_rfl) (fun _ _ _ h=>h) (by rfl) (fun w1 hl=>lW 221 _ rfl _ rfl ((HF.out w1 hl).2.1) Tryz.underlying221 rfl (Jv)) ?_
 simp only[eA,eB,eC,Act.put,eD,eE,eF]
 refine pl [0,1,2,3] ?_
 repeat
  refine oM ?_ rfl (fun w1=>?_) ?_
  rotate_left
  ·go_simp;try with_reducible rfl
  simp only[eA,eB,eC,Act.put,eD,eE,eF]
 refine bU ?_
 refine AY 4 ?_ rfl (fun w1 hl=>?_) ?_
 rotate_left
 ·obtain⟨hS,_,_⟩:=HF.out w1 hl;obtain⟨x0,x1,x2,x3,x4⟩:=hS.cells;go_simp;try with_reducible rfl
 simp only[eA,eB,eC,Act.put,eD,eE,eF]
 refine dw (T:=[7,10]) (i:=6) (by kernel_rfl) rfl (fun w1 hl K hK=>?_)
 go_simp
 refine hK.out _ _ (fun _=>aj _ _) ?_
 have hsl:=qL xC w1 221 [x'] (by simp[maxLen])
 have hlA:Later _ (w1.alloc (.cells ([x'].flatMap fV).toArray 221)):=Later.trans _ _ _ hl (aj _ _)
 clear hK K hl
 refine dw (T:=[7,10]) (i:=7) (by kernel_rfl) rfl (fun w1 hl K hK=>?_)
 obtain⟨hS,_,hkp⟩:=HF.out w1 (Later.trans _ _ _ hlA hl)
 have hnw:=FB (hsl.kept hl)
 have hsw:qB≤w1.heap.size:=by have:=hkp.others.size;omega
 clear hsl hl hlA
 obtain⟨a0,c0,rfl⟩:=hS.form
 refine gu (by rfl) ?_
 refine pU _ _ 216 rfl acG xC rfl hS.out _ 1 x' rfl hnw (by simp[maxLen];omega) (by omega) (by omega) ?_
 intro a' cap' w' hown' hg hfr
 refine hK.out _ _ (fun h=>absurd h (by decide)) ?_
 clear hK K hnw
 simp only[List.getElem_toArray,List.getElem_cons_zero,List.getElem_cons_succ,Act.put,List.setIfInBounds_toArray,List.set_cons_zero,List.set_cons_succ]
 have hX0:=hS.box.lS hS.out hg (by decide)
 have hK0:=hkp.trans (ay.grown hS.out hg (Nat.le_of_lt hr) (by omega))
 refine pl [8,9] ?_
 repeat
  refine oM ?_ rfl (fun w1=>?_) ?_
  rotate_left
  ·go_simp;try with_reducible rfl
  simp only[eA,eB,eC,Act.put,eD,eE,eF]
 refine bU ?_
 refine dw (T:=[7,10]) (i:=10) (by kernel_rfl) rfl (fun w1 hl K hK=>?_)
 have hx:=hX0.kept hl
 have x0:=hx.cell 2
 have f0:=hx.free 2
 go_simp
 refine hK.out _ _ (fun h=>absurd h (by decide)) ?_
 clear hK K x0 f0
 have Dh:=hS.append hr hg hown' hl
 have hKN:=(hK0.trans (ay.below (Nat.le_of_lt hX0.lt) hl)).trans (ay.set (qB:=qB) w1 2 (.slice a' (X.length+1) cap'))
 clear hl hx hX0 hK0 hS hg hown' hkp
 refine kK (by kernel_rfl) (fun w1 hl=>?_) _
 have Dh:=Dh.kept hl
 have hKN:=hKN.trans (ay.below (by have:=Dh.box.lt;have:=hl.size;have:=hKN.others.size;omega) hl)
 clear hl HF
 obtain⟨x0,x1,x2,x3,x4⟩:=Dh.cells
 have f1:=Dh.box.free 1
 go_wp2
 go_end0
 exact⟨rfl,⟨a',cap',by rw[List.length_append];exact Dh.place hr next⟩,hKN.trans (ay.set _ _ _)⟩
end
end Go.Proofs.YtengfapcaaacaaaGreatDoor
