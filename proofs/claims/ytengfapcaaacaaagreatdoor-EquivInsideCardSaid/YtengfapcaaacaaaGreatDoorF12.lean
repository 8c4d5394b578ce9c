/- The texts of E12, in few letters (mini.py). -/
import Derived.Test.YtengfapcaaacaaaGreatDoorF11
set_option linter.unusedVariables false
set_option linter.unusedSimpArgs false
set_option maxRecDepth 20000
set_option maxHeartbeats 3200000
namespace Go.Proofs.YtengfapcaaacaaaGreatDoor
section
open Go.RowKit
def gX(x:Lx):List Value:=[.int .i64 x.kind,.int .i64 x.at',.int .u64 (word x.set 0:Nat),.int .u64 (word x.set 1:Nat),.int .u64 (word x.set 2:Nat),.int .u64 (word x.set 3:Nat),.int .i64 x.lo,.int .i64 x.hi]
theorem wR:dX gX 8:=⟨fun _=>rfl,fun x u hu=>by
 simp[gX] at hu
 rcases hu with rfl | rfl | rfl | rfl | rfl | rfl | rfl | rfl <;> rfl⟩
theorem adA:dI Tryz.prog 216 221 (.agg #[.int .i64 0,.int .i64 0,.int .u64 0,.int .u64 0,.int .u64 0,.int .u64 0,.int .i64 0,.int .i64 0]) 8 64:=⟨Tryz.underlying216,info_parts (by kernel_rfl),rfl,by decide⟩
theorem Jo:(Tryz.prog.info? 221).map (·.size)=some 8:=by kernel_rfl
def spC(g:Nat×Nat)(n cap i:Nat)(v:Value)(k p:Nat):Array Value:=#[.slice (some ⟨g.1,g.2,none⟩) n cap,.int .i64 i,v,.int .i64 k,.int .i64 p]
structure fE(w:World)(r base:Nat)(g:Nat×Nat)(n cap i:Nat)(l:List UInt8)(X:List Lx)(v:Value)(k p:Nat):Prop where
 box:Box w r (spC g n cap i v k p) 271
 sl:au w (.slice (some ⟨g.1,g.2,none⟩) n cap) 1 gI l
 out:Own w base 221 8 gX v X
 ne:g.1≠r
 lt:g.1<base
theorem fE.kept{w w':World}{r base:Nat}{g:Nat×Nat}{n cap i:Nat}{l:List UInt8}{X:List Lx}{v:Value}{k p:Nat}(h:fE w r base g n cap i l X v k p)(hb:Below w.heap.size w w'):fE w' r base g n cap i l X v k p :=
 ⟨h.box.kept hb,h.sl.kept hb,h.out.kept hb,h.ne,h.lt⟩
theorem fE.cells{w:World}{r base:Nat}{g:Nat×Nat}{n cap i:Nat}{l:List UInt8}{X:List Lx}{v:Value}{k p:Nat}(h:fE w r base g n cap i l X v k p) :
  w.cell? ⟨r,0,none⟩=some (.slice (some ⟨g.1,g.2,none⟩) n cap)∧w.cell? ⟨r,1,none⟩=some (.int .i64 i)∧w.cell? ⟨r,2,none⟩=some v∧w.cell? ⟨r,3,none⟩=some (.int .i64 k)∧w.cell? ⟨r,4,none⟩=some (.int .i64 p) :=
 ⟨h.box.cell 0,h.box.cell 1,h.box.cell 2,h.box.cell 3,h.box.cell 4⟩
def rP(r base:Nat)(g:Nat×Nat)(n cap i:Nat)(l:List UInt8)(X:List Lx)(k p:Nat)(w:World)(u:Value)(e:Ending)(w':World):Prop :=
 e=.returned u∧(∃ a c,fE w' r base g n cap i l X (.slice a X.length c) k p)∧dD r base w w'
theorem fE.form{w:World}{r base:Nat}{g:Nat×Nat}{n cap i:Nat}{l:List UInt8}{X:List Lx}{v:Value}{k p:Nat}(h:fE w r base g n cap i l X v k p):∃ a c,v=.slice a X.length c:=h.out.form
theorem fE.FH{w:World}{r base:Nat}{g:Nat×Nat}{n cap i:Nat}{l:List UInt8}{X:List Lx}{v:Value}{k p:Nat}(h:fE w r base g n cap i l X v k p)(j:Nat)(u:Value) :
  au (w.setCell ⟨r,j,none⟩ u) (.slice (some ⟨g.1,g.2,none⟩) n cap) 1 gI l:=(dD.set (base:=base) w j u).cells.slice h.sl (fun _ ad e=>by cases e;show ¬ (g.1=r∨base≤g.1);have:=h.ne;have:=h.lt;omega)
theorem fE.place{w:World}{r base:Nat}{g:Nat×Nat}{n cap i:Nat}{l:List UInt8}{X:List Lx}{v:Value}{k p:Nat}(h:fE w r base g n cap i l X v k p)(hr:r<base)(j:Nat):fE (w.setCell ⟨r,1,none⟩ (.int .i64 (j:Nat))) r base g n cap j l X v k p :=
 ⟨h.box.set 1 _,h.FH 1 _,h.out.other _ _ hr,h.ne,h.lt⟩
theorem fE.fault{w:World}{r base:Nat}{g:Nat×Nat}{n cap i:Nat}{l:List UInt8}{X:List Lx}{v:Value}{k p:Nat}(h:fE w r base g n cap i l X v k p)(hr:r<base)(k' p':Nat) :
  fE ((w.setCell ⟨r,3,none⟩ (.int .i64 (k':Nat))).setCell ⟨r,4,none⟩ (.int .i64 (p':Nat))) r base g n cap i l X v k' p' :=
 ⟨(h.box.set 3 _).set 4 _,(fE.FH ⟨h.box.set 3 (.int .i64 (k':Nat)),h.FH 3 _,h.out.other _ _ hr,h.ne,h.lt⟩ (k:=k') (p:=p) 4 _),(h.out.other _ _ hr).other _ _ hr,h.ne,h.lt⟩
theorem fE.append{w w' w2:World}{r base:Nat}{g:Nat×Nat}{n cap i:Nat}{l:List UInt8}{X:List Lx}{v:Value}{k p:Nat}{a':Option Addr}{n' c':Nat}{x:Lx}(h:fE w r base g n cap i l X v k p)(hr:r<base)(hg:w.grownBy w' v.ownBlock)
  (ho:Own w' base 221 8 gX (.slice a' n' c') (X++[x])) (hl:Below w'.heap.size w' w2):fE (w2.setCell ⟨r,2,none⟩ (.slice a' n' c')) r base g n cap i l (X++[x]) (.slice a' n' c') k p:=by
 have hb:=(h.box.cu h.out hg (by decide)).kept hl
 have hs:au w' (.slice (some ⟨g.1,g.2,none⟩) n cap) 1 gI l:=(aX.grown (X:=fun b=>base≤b) h.out hg (fun _ h=>h)).slice h.sl (fun _ ad e=>by cases e;show ¬ base≤g.1;have:=h.lt;omega)
 exact⟨hb.set 2 _,(dD.set (base:=base) w2 2 _).cells.slice (hs.kept hl) (fun _ ad e=>by cases e;show ¬ (g.1=r∨base≤g.1);have:=h.ne;have:=h.lt;omega),(ho.kept hl).other _ _ hr,h.ne,h.lt⟩
theorem ahY(r base:Nat)(g:Nat×Nat)(n cap i:Nat)(l:List UInt8)(X:List Lx)(v:Value)(k p:Nat)(x:Lx)(next:Nat)(w:World)(h:fE w r base g n cap i l X v k p)(hr:r<base)(hb:base≤w.heap.size)(hX:X.length≤4294967296) :
  Calls Tryz.prog 253 #[.pointer (some ⟨r,0,none⟩),.agg (gX x).toArray,.int .i64 next] w (rP r base g n cap next l (X++[{ x with at':=i }]) k p w (.tuple #[])):=by
 have h1:=h.kept (aj w (.cells (gX x).toArray 221))
 obtain⟨x0,x1,x2,x3,x4⟩:=h1.cells
 obtain⟨x',hx'⟩:∃ x':Lx,{ x with at':=i }=x':=⟨_,rfl⟩
 have he:(gX x).set 1 (.int .i64 i)=gX x':=by rw[←hx'];rfl
 rw[hx']
 have hx2:=Box.new w (gX x').toArray 221
 have h2:=h.kept (aj w (.cells (gX x').toArray 221))
 have hk2:=dD.below (base:=base) (by omega:r≤w.heap.size) (aj w (.cells (gX x').toArray 221))
 have hW:(w.alloc (.cells (gX x').toArray 221)).heap.size=w.heap.size+1:=by simp
 go_enter Tryz.func253,Tryz.ntmps253
 go_wp2_with fail
 generalize (w.alloc (.cells (gX x').toArray 221))=W2 at *
 clear h1 x0 x1 x2 x3 x4 he hx'
 have HF:Hid (∀ u,Later W2.drew u→fE u r base g n cap i l X v k p∧Box u w.heap.size (gX x').toArray 221∧dD r base w u):=ah fun u hl =>
  ⟨(h2.kept (Below.refl _ _).drew).kept hl,hx2.drew.kept hl,hk2.trans ((dD.below (base:=base) (by omega) (Below.refl W2.heap.size W2).drew).trans (dD.below (by show r≤W2.heap.size;omega) hl))⟩
 clear h2 hx2 hk2
 refine jG (R:=Later) [7,10] (by kernel_rfl) ?_
 refine DN (T:=[7,10]) (i:=5) rfl (by kernel_rfl) (by kernel_rfl) (by kernel_rfl) (by kernel_rfl) (fun _ _ _ h=>h) (by rfl) (fun w1 hl=>cO 221 _ rfl _ rfl ((HF.out w1 hl).2.1) Tryz.underlying221 rfl (Jo)) ?_
 simp only[eA,eB,eC,Act.put,eD,eE,eF]
 refine pl [0,1,2,3] ?_
 repeat
  refine uN ?_ rfl (fun w1=>?_) ?_
  rotate_left
  ·go_simp;try with_reducible rfl
  simp only[eA,eB,eC,Act.put,eD,eE,eF]
 refine bV ?_
 refine CJ 4 ?_ rfl (fun w1 hl=>?_) ?_
 rotate_left
 ·obtain⟨hS,_,_⟩:=HF.out w1 hl;obtain⟨x0,x1,x2,x3,x4⟩:=hS.cells;go_simp;try with_reducible rfl
 simp only[eA,eB,eC,Act.put,eD,eE,eF]
 refine eP (T:=[7,10]) (i:=6) (by kernel_rfl) rfl (fun w1 hl K hK=>?_)
 go_simp
 refine hK.out _ _ (fun _=>aj _ _) ?_
 have hsl:=oz wR w1 221 [x'] (by simp[maxLen])
 have hlA:Later _ (w1.alloc (.cells ([x'].flatMap gX).toArray 221)):=Later.trans _ _ _ hl (aj _ _)
 clear hK K hl
 refine eP (T:=[7,10]) (i:=7) (by kernel_rfl) rfl (fun w1 hl K hK=>?_)
 obtain⟨hS,_,hkp⟩:=HF.out w1 (Later.trans _ _ _ hlA hl)
 have hnw:=CV (hsl.kept hl)
 have hsw:base≤w1.heap.size:=by have:=hkp.others.size;omega
 clear hsl hl hlA
 obtain⟨a0,c0,rfl⟩:=hS.form
 refine eY (by rfl) ?_
 refine nX _ _ 216 rfl adA wR rfl hS.out _ 1 x' rfl hnw (by simp[maxLen];omega) (by omega) (by omega) ?_
 intro a' cap' w' hown' hg hfr
 refine hK.out _ _ (fun h=>absurd h (by decide)) ?_
 clear hK K hnw
 simp only[List.getElem_toArray,List.getElem_cons_zero,List.getElem_cons_succ,Act.put,List.setIfInBounds_toArray,List.set_cons_zero,List.set_cons_succ]
 have hX0:=hS.box.cu hS.out hg (by decide)
 have hK0:=hkp.trans (dD.grown hS.out hg (Nat.le_of_lt hr) (by omega))
 refine pl [8,9] ?_
 repeat
  refine uN ?_ rfl (fun w1=>?_) ?_
  rotate_left
  ·go_simp;try with_reducible rfl
  simp only[eA,eB,eC,Act.put,eD,eE,eF]
 refine bV ?_
 refine eP (T:=[7,10]) (i:=10) (by kernel_rfl) rfl (fun w1 hl K hK=>?_)
 have hx:=hX0.kept hl
 have x0:=hx.cell 2
 have f0:=hx.free 2
 go_simp
 refine hK.out _ _ (fun h=>absurd h (by decide)) ?_
 clear hK K x0 f0
 have CQ:=hS.append hr hg hown' hl
 have hKN:=(hK0.trans (dD.below (Nat.le_of_lt hX0.lt) hl)).trans (dD.set (base:=base) w1 2 (.slice a' (X.length+1) cap'))
 clear hl hx hX0 hK0 hS hg hown' hkp
 refine nU (by kernel_rfl) (fun w1 hl=>?_) _
 have CQ:=CQ.kept hl
 have hKN:=hKN.trans (dD.below (by have:=CQ.box.lt;have:=hl.size;have:=hKN.others.size;omega) hl)
 clear hl HF
 obtain⟨x0,x1,x2,x3,x4⟩:=CQ.cells
 have f1:=CQ.box.free 1
 go_wp2
 go_end0
 exact⟨rfl,⟨a',cap',by rw[List.length_append];exact CQ.place hr next⟩,hKN.trans (dD.set _ _ _)⟩
end
section
open Go.RowKit
theorem rP.over{r base:Nat}{g:Nat×Nat}{n cap i:Nat}{l:List UInt8}{X:List Lx}{k p:Nat}{w w1:World}{u:Value}{e:Ending}{w':World}(ho:dD r base w w1)(h:rP r base g n cap i l X k p w1 u e w'):rP r base g n cap i l X k p w u e w':=⟨h.1,h.2.1,ho.trans h.2.2⟩
abbrev ahZ(k:Nat)(s:aF)(lo hi:Int):Value:=.agg #[.int .i64 k,.int .i64 0,.int .u64 (word s 0:Nat),.int .u64 (word s 1:Nat),.int .u64 (word s 2:Nat),.int .u64 (word s 3:Nat),.int .i64 lo,.int .i64 hi]
theorem fE.byte{w:World}{r base:Nat}{g:Nat×Nat}{n cap i:Nat}{l:List UInt8}{X:List Lx}{v:Value}{k p:Nat}(h:fE w r base g n cap i l X v k p):n=l.length∧n≤9223372036854775807∧∀ j (hj:j<l.length),w.cell? ⟨g.1,g.2+j,none⟩=some (.int .u8 (l[j]).toNat):=by
 obtain⟨h1,h2,h3,h4⟩:=h.sl.cellsA
 exact⟨h1,by omega,fun j hj=>h4 j hj w (Below.refl _ _)⟩
theorem agT(r base:Nat)(g:Nat×Nat)(n cap i:Nat)(l:List UInt8)(X:List Lx)(v:Value)(k p:Nat)(kd:Nat)(w:World)(h:fE w r base g n cap i l X v k p)(hr:r<base) :
  Calls Tryz.prog 228 #[.pointer (some ⟨r,0,none⟩),.int .i64 kd] w (rP r base g n cap i l X kd i w (.tuple #[])):=by
 obtain⟨x0,x1,x2,x3,x4⟩:=h.cells
 have f3:=h.box.free 3
 have f4:=h.box.free 4
 have HS:=ah h
 clear h
 go_enter Tryz.func228,Tryz.ntmps228
 go_wp2
 go_end0
 obtain⟨a,c,rfl⟩:=HS.out.form
 exact⟨rfl,⟨a,c,HS.out.fault hr kd i⟩,(dD.set _ _ _).trans (dD.set _ _ _)⟩
theorem VY(r base:Nat)(g:Nat×Nat)(n cap i:Nat)(l:List UInt8)(X:List Lx)(v:Value)(k p:Nat)(kd:Nat)(s:aF)(lo hi:Int)(next:Nat)(w:World)(h:fE w r base g n cap i l X v k p)(hr:r<base)(hb:base≤w.heap.size)(hX:X.length≤4294967296) :
  Calls Tryz.prog 253 #[.pointer (some ⟨r,0,none⟩),ahZ kd s lo hi,.int .i64 next] w (rP r base g n cap next l (X++[⟨kd,i,s,lo,hi⟩]) k p w (.tuple #[])) :=
 ahY r base g n cap i l X v k p ⟨kd,0,s,lo,hi⟩ next w h hr hb hX
theorem agU(r base:Nat)(g:Nat×Nat)(n cap i:Nat)(l:List UInt8)(X:List Lx)(v:Value)(k p:Nat)(kd:Nat)(lo hi:Int)(next:Nat)(w:World)(h:fE w r base g n cap i l X v k p)(hr:r<base)(hb:base≤w.heap.size)(hX:X.length≤4294967296) :
  Calls Tryz.prog 253 #[.pointer (some ⟨r,0,none⟩),.agg #[.int .i64 kd,.int .i64 0,.int .u64 0,.int .u64 0,.int .u64 0,.int .u64 0,.int .i64 lo,.int .i64 hi],.int .i64 next] w (rP r base g n cap next l (X++[⟨kd,i,0,lo,hi⟩]) k p w (.tuple #[])):=by
 have:=VY r base g n cap i l X v k p kd 0 lo hi next w h hr hb hX
 simp only[ahZ,qG] at this
 exact this
theorem ah0(r base:Nat)(g:Nat×Nat)(n cap i:Nat)(l:List UInt8)(X:List Lx)(v:Value)(k p:Nat)(s:aF)(next:Nat)(w:World)(h:fE w r base g n cap i l X v k p)(hr:r<base)(hb:base≤w.heap.size)(hX:X.length≤4294967296) :
  Calls Tryz.prog 225 #[.pointer (some ⟨r,0,none⟩),mY s,.int .i64 next] w (rP r base g n cap next l (X++[⟨1,i,s,0,0⟩]) k p w (.tuple #[])):=by
 have h1:=h.kept (aj w (.cells (dZ s) 113))
 have hk1:=dD.below (base:=base) (by omega:r≤w.heap.size) (aj w (.cells (dZ s) 113))
 have hx:=Box.new w (dZ s) 113
 have hp:=fun w1 h1 hb1=>VY r base g n cap i l X v k p 1 s 0 0 next w1 h1 hr hb1 hX
 obtain⟨⟨c0,c1,c2,c3⟩,_⟩:=hx.uy
 have HP:=ah (hp _ h1 (by simp;omega))
 clear hp h h1 hx
 go_enter Tryz.func225,Tryz.ntmps225
 go_wp2_with (go_at_call 253;go_must (refine HP.out.mono ?_;rintro e w3 ⟨rfl,hS3,hK3⟩))
 go_end0
 exact⟨rfl,hS3,hk1.trans hK3⟩
def qg(r base:Nat)(g:Nat×Nat)(n cap i:Nat)(l:List UInt8)(X:List Lx)(k p:Nat)(w:World)(c:Nat)(e:Ending)(w':World):Prop :=
 if nK c=0 then bF w (.bool false) e w' else rP r base g n cap (i+1) l (X++[⟨nK c,i,0,0,0⟩]) k p w (.bool true) e w'
theorem agV(r base:Nat)(g:Nat×Nat)(n cap i:Nat)(l:List UInt8)(X:List Lx)(v:Value)(k p:Nat)(w:World)(h:fE w r base g n cap i l X v k p)(hr:r<base)(hb:base≤w.heap.size)(hX:X.length≤4294967296)(hi:i<l.length) :
  Calls Tryz.prog 229 #[.pointer (some ⟨r,0,none⟩)] w (qg r base g n cap i l X k p w (l[i]).toNat):=by
 obtain⟨hlen,hn63,hbyte⟩:=h.byte
 have hby:=fun u (hu:fE u r base g n cap i l X v k p)=>hu.byte.2.2 i hi
 clear hbyte
 generalize (l[i]).toNat=c at *
 have hi0:(0:Int)≤(i:Int):=by omega
 have hin:(i:Int)<(n:Int):=by omega
 have hw1:IntKind.i64.wrap ((i:Int)+1)=((i+1:Nat):Int):=by rw[IntWalk.i64_in _ (by omega)];omega
 have OD:=ah hby
 have HF:Hid (∀ u,Later w.drew u→fE u r base g n cap i l X v k p∧dD r base w u∧Below w.heap.size w u):=ah fun u hl=>⟨(h.kept (Below.refl _ _).drew).kept hl,(dD.below (base:=base) (by omega) (Below.refl w.heap.size w).drew).trans (dD.below (by show r≤w.heap.size;omega) hl),(Below.refl _ w).drew.trans (Below.mono hl (Nat.le_refl _))⟩
 have HP:=ah fun kind w1 h1 hb1=>agU r base g n cap i l X v k p kind 0 0 (i+1) w1 h1 hr hb1 hX
 clear hby h hlen
 go_enter Tryz.func229,Tryz.ntmps229
 go_wp2_with fail
 refine aO (R:=Later) 10 (by kernel_rfl) ?_
 refine pl [0,1,2,3,4,5,6,7,8,9] ?_
 repeat
  refine dR ?_ rfl (fun w1 hl=>?_) ?_
  rotate_left
  ·have hS:=(HF.out w1 hl).1;obtain⟨x0,x1,x2,x3,x4⟩:=hS.cells;have c0:=OD.out w1 hS;go_simp;try with_reducible rfl
  simp only[eA,eB,eC,Act.put,eD,eE,eF]
 refine bV ?_
 refine aV (by kernel_rfl) (fun w1 hl=>?_) _
 obtain⟨hS,hK,hB⟩:=HF.out w1 hl
 obtain⟨x0,x1,x2,x3,x4⟩:=hS.cells
 have hsz:=hK.others.size
 clear hl HF OD
 by_cases Ic:c=40
 ·have e40:((c:Int)==40)=true:=by rw[Ic];rfl
  have sk:=ah (show nK c=2 by rw[Ic];rfl)
  clear Ic
  go_wp2_with (go_at_call 253;go_must (refine(HP.out 2 _ hS (by omega)).mono ?_;rintro e w3 ⟨rfl,hS3,hK3⟩))
  go_ret
  unfold qg
  rw[if_neg (by rw[sk.out];decide),sk.out]
  exact⟨rfl,hS3,hK.trans hK3⟩
 have e40:((c:Int)==40)=false:=by simp;omega
 by_cases KL:c=41
 ·have e41:((c:Int)==41)=true:=by rw[KL];rfl
  have sk:=ah (show nK c=3 by rw[KL];rfl)
  clear Ic KL
  go_wp2_with (go_at_call 253;go_must (refine(HP.out 3 _ hS (by omega)).mono ?_;rintro e w3 ⟨rfl,hS3,hK3⟩))
  go_ret
  unfold qg
  rw[if_neg (by rw[sk.out];decide),sk.out]
  exact⟨rfl,hS3,hK.trans hK3⟩
 have e41:((c:Int)==41)=false:=by simp;omega
 by_cases FI:c=124
 ·have aob:((c:Int)==124)=true:=by rw[FI];rfl
  have sk:=ah (show nK c=4 by rw[FI];rfl)
  clear Ic KL FI
  go_wp2_with (go_at_call 253;go_must (refine(HP.out 4 _ hS (by omega)).mono ?_;rintro e w3 ⟨rfl,hS3,hK3⟩))
  go_ret
  unfold qg
  rw[if_neg (by rw[sk.out];decide),sk.out]
  exact⟨rfl,hS3,hK.trans hK3⟩
 have aob:((c:Int)==124)=false:=by simp;omega
 by_cases RI:c=42
 ·have e42:((c:Int)==42)=true:=by rw[RI];rfl
  have sk:=ah (show nK c=5 by rw[RI];rfl)
  clear Ic KL FI RI
  go_wp2_with (go_at_call 253;go_must (refine(HP.out 5 _ hS (by omega)).mono ?_;rintro e w3 ⟨rfl,hS3,hK3⟩))
  go_ret
  unfold qg
  rw[if_neg (by rw[sk.out];decide),sk.out]
  exact⟨rfl,hS3,hK.trans hK3⟩
 have e42:((c:Int)==42)=false:=by simp;omega
 by_cases VZ:c=43
 ·have e43:((c:Int)==43)=true:=by rw[VZ];rfl
  have sk:=ah (show nK c=6 by rw[VZ];rfl)
  clear Ic KL FI RI VZ
  go_wp2_with (go_at_call 253;go_must (refine(HP.out 6 _ hS (by omega)).mono ?_;rintro e w3 ⟨rfl,hS3,hK3⟩))
  go_ret
  unfold qg
  rw[if_neg (by rw[sk.out];decide),sk.out]
  exact⟨rfl,hS3,hK.trans hK3⟩
 have e43:((c:Int)==43)=false:=by simp;omega
 by_cases q63:c=63
 ·have e63:((c:Int)==63)=true:=by rw[q63];rfl
  have sk:=ah (show nK c=7 by rw[q63];rfl)
  clear Ic KL FI RI VZ q63
  go_wp2_with (go_at_call 253;go_must (refine(HP.out 7 _ hS (by omega)).mono ?_;rintro e w3 ⟨rfl,hS3,hK3⟩))
  go_ret
  unfold qg
  rw[if_neg (by rw[sk.out];decide),sk.out]
  exact⟨rfl,hS3,hK.trans hK3⟩
 have e63:((c:Int)==63)=false:=by simp;omega
 have sk:=ah (show nK c=0 by unfold nK;simp only[Ic,KL,FI,RI,VZ,q63,if_false])
 clear Ic KL FI RI VZ q63
 go_wp2
 go_ret
 unfold qg
 rw[if_pos sk.out]
 exact⟨rfl,hB⟩
end
section
open Go.RowKit
structure FK(w W:World)(g:Nat×Nat)(n cap i k p:Nat)(l:List UInt8):Prop where
 x0:Box W w.heap.size #[.int .i64 0,.int .i64 0] 66
 rd:qP W (w.heap.size+1) g n cap i 0 k p l
 below:Below w.heap.size w W
theorem FK.kept{w W W':World}{g:Nat×Nat}{n cap i k p:Nat}{l:List UInt8}(h:FK w W g n cap i k p l)(hb:Below W.heap.size W W'):FK w W' g n cap i k p l:=⟨h.x0.kept hb,h.rd.kept hb,h.below.trans (hb.mono h.below.size)⟩
theorem FK.step{w W W':World}{g:Nat×Nat}{n cap i k p i' k' p':Nat}{l:List UInt8}(h:FK w W g n cap i k p l)(hr:qP W' (w.heap.size+1) g n cap i' 0 k' p' l)(ho:Only (w.heap.size+1) W W'):FK w W' g n cap i' k' p' l :=
 ⟨ho.box h.x0 (by omega),hr,h.below.trans (ho.1.mono (by omega))⟩
theorem FK.start{g:Nat×Nat}{n cap i:Nat}{l:List UInt8}{w:World}(h:au w (.slice (some ⟨g.1,g.2,none⟩) n cap) 1 gI l)(hg:g.1<w.heap.size) :
  FK w ((w.alloc (.cells #[.int .i64 0,.int .i64 0] 66)).alloc (.cells #[.slice (some ⟨g.1,g.2,none⟩) n cap,.int .i64 i,.int .i64 0,.int .i64 0,.int .i64 0] 354)) g n cap i 0 0 l:=by
 have hb:Below w.heap.size w ((w.alloc (.cells #[.int .i64 0,.int .i64 0] 66)).alloc (.cells #[.slice (some ⟨g.1,g.2,none⟩) n cap,.int .i64 i,.int .i64 0,.int .i64 0,.int .i64 0] 354)):=((Below.refl _ w).alloc (Nat.le_refl _) _).alloc (by simp) _
 exact⟨(Box.new' rfl _ _).alloc _,⟨Box.new' (by simp) _ _,h.kept hb,by omega⟩,hb⟩
end
section
open Go.RowKit
theorem fE.late{w:World}{r base b E:Nat}{g:Nat×Nat}{n cap i:Nat}{l:List UInt8}{X:List Lx}{v:Value}{k p:Nat}{c:Array Value}(h:fE w r base g n cap i l X v k p)(hx:Box w b c E)(hrb:r≠b)(hbb:base≤b)(j:Nat)(u:Value)(hE:E≠221:=by decide) :
  fE (w.setCell ⟨b,j,none⟩ u) r base g n cap i l X v k p:=by
 have hlt:=h.lt
 exact⟨h.box.other _ _ hrb,(aX.set (X:=(·=b)) w ⟨b,j,none⟩ u rfl).slice h.sl (fun _ ad e=>by cases e;show ¬ g.1=b;omega),h.out.lD hx (Ne.symm hE) _ _,h.ne,h.lt⟩
theorem dD.late{r base b i:Nat}(w:World)(hb:base≤b)(hr:r≤b)(u:Value):dD r base w (w.setCell ⟨b,i,none⟩ u):=⟨(Below.refl r _).setCell (by show r≤b;exact hr) _,aX.set _ _ _ (.inr hb),KeepsOthers.setCell _ _ _⟩
end
section
open Go.RowKit
structure adB(W:World)(r base:Nat)(g:Nat×Nat)(n cap i:Nat)(l:List UInt8)(X:List Lx)(v:Value)(k p ps pi E1 j:Nat):Prop where
 sp:fE W r base g n cap i l X v k p
 bs:Box W ps #[.pointer (some ⟨r,0,none⟩)] E1
 bi:Box W pi #[.int .i64 j] 3
 ne:ps≠pi
 ls:base≤ps
 li:base≤pi
 lr:r<base
theorem adB.kept{W W':World}{r base:Nat}{g:Nat×Nat}{n cap i:Nat}{l:List UInt8}{X:List Lx}{v:Value}{k p ps pi E1 j:Nat}(h:adB W r base g n cap i l X v k p ps pi E1 j)(hb:Below W.heap.size W W'):adB W' r base g n cap i l X v k p ps pi E1 j :=
 ⟨h.sp.kept hb,h.bs.kept hb,h.bi.kept hb,h.ne,h.ls,h.li,h.lr⟩
end
section
open Go.RowKit
def lG(r base:Nat)(g:Nat×Nat)(n cap i:Nat)(l:List UInt8)(X:List Lx)(k p:Nat)(w:World)(ans:Sum (Nat×Nat) (Lx×Nat))(e:Ending)(w':World):Prop :=
 match ans with
 | .inl q=>rP r base g n cap i l X q.1 q.2 w (.tuple #[]) e w'
 | .inr q=>rP r base g n cap q.2 l (X++[q.1]) k p w (.tuple #[]) e w'
end
section
open Go.RowKit
theorem lG.ret{r base:Nat}{g:Nat×Nat}{n cap i:Nat}{l:List UInt8}{X:List Lx}{k p:Nat}{w w':World}{ans:Sum (Nat×Nat) (Lx×Nat)}{e:Ending}(h:lG r base g n cap i l X k p w ans e w'):e=.returned (.tuple #[]):=by
 cases ans with
 | inl q=>exact h.1
 | inr q=>exact h.1
theorem lG.over{r base:Nat}{g:Nat×Nat}{n cap i:Nat}{l:List UInt8}{X:List Lx}{k p:Nat}{w w1 w':World}{ans:Sum (Nat×Nat) (Lx×Nat)}{e:Ending}(ho:dD r base w w1)(h:lG r base g n cap i l X k p w1 ans e w'):lG r base g n cap i l X k p w ans e w':=by
 cases ans with
 | inl q=>exact rP.over ho h
 | inr q=>exact rP.over ho h
theorem agW(r base:Nat)(g:Nat×Nat)(n cap i:Nat)(l:List UInt8)(X:List Lx)(v:Value)(k p:Nat)(ps E1:Nat)(w:World)(h:fE w r base g n cap i l X v k p)(hr:r<base)(hps:Box w ps #[.pointer (some ⟨r,0,none⟩)] E1) :
  Calls Tryz.prog 227 #[.pointer (some ⟨ps,0,none⟩)] w (lG r base g n cap i l X k p w (.inl (3,i))):=by
 have y0:=hps.cell 0
 have hf:=agT r base g n cap i l X v k p 3 w h hr
 have HF:=ah hf
 clear hf h hps
 go_enter Tryz.func227,Tryz.ntmps227
 go_wp2_with fail
 refine HF.out.mono ?_
 rintro e uf ⟨rfl,hS,hKf⟩
 go_wp2
 go_end0
 exact⟨rfl,hS,hKf⟩
theorem aaB(r base:Nat)(g:Nat×Nat)(n cap i:Nat)(l:List UInt8)(X:List Lx)(v:Value)(k p:Nat)(ps pc E1 x:Nat)(w:World)(h:fE w r base g n cap i l X v k p)(hr:r<base)(hb:base≤w.heap.size)(hps:Box w ps #[.pointer (some ⟨r,0,none⟩)] E1)(hpc:Box w pc #[.int .u8 x] 5)(hx:x<256)(hi:i<n)(hX:X.length≤4294967296) :
  Calls Tryz.prog 230 #[.pointer (some ⟨ps,0,none⟩),.pointer (some ⟨pc,0,none⟩)] w (lG r base g n cap i l X k p w (.inr (⟨1,i,uH [x],0,0⟩,i+1))):=by
 have hn63:=h.byte.2.1
 have hw1:IntKind.i64.wrap ((i:Int)+1)=((i+1:Nat):Int):=by rw[IntWalk.i64_in _ (by omega)];omega
 have hset:=fun u hu hbu=>ah0 r base g n cap i l X v k p (uH [x]) (i+1) u hu hr hbu hX
 have hof:=fun b w1 h=>VR (some ⟨b,0,none⟩) 1 [x] w1 h (by simpa using hx)
 have RJ:=ah hset
 have yR:=ah hof
 have HF:Hid (∀ u,Later w.drew u→fE u r base g n cap i l X v k p∧Box u ps #[.pointer (some ⟨r,0,none⟩)] E1∧Box u pc #[.int .u8 x] 5∧dD r base w u):=ah fun u hl=>⟨(h.kept (Below.refl _ _).drew).kept hl,hps.drew.kept hl,hpc.drew.kept hl,(dD.below (base:=base) (by omega) (Below.refl w.heap.size w).drew).trans (dD.below (by show r≤w.heap.size;omega) hl)⟩
 clear hset hof h hps hpc
 generalize uH [x]=d at *
 go_enter Tryz.func230,Tryz.ntmps230
 go_wp2_with fail
 refine aO (R:=Later) 9 (by kernel_rfl) ?_
 refine pl [0,1,4,5,6,7,8] ?_
 repeat
  refine dR ?_ rfl (fun w1 hl=>?_) ?_
  rotate_left
  ·obtain⟨hS,hp,hc,_⟩:=HF.out w1 hl;have y0:=hp.cell 0;have y1:=hc.cell 0;obtain⟨x0,x1,x2,x3,x4⟩:=hS.cells;go_simp;try with_reducible rfl
  simp only[eA,eB,eC,Act.put,eD,eE,eF]
 refine bV ?_
 refine bg (t:=9) (i:=2) (by kernel_rfl) rfl (fun w1 hl K hK=>?_)
 go_simp
 refine hK.out _ _ (fun _=>aj _ _) ?_
 have hsl:=QC w1 x 5
 have hlA:Later _ (w1.alloc (.cells #[.int .u8 x] 5)):=Later.trans _ _ _ hl (aj _ _)
 clear hK K hl
 generalize w1.alloc (.cells #[.int .u8 x] 5)=w5 at *
 have HSL:Hid (∀ u,Later w5 u→au u (.slice (some ⟨w1.heap.size,0,none⟩) 1 1) 1 dY [x]):=ah fun u hl=>hsl.kept hl
 refine yg 3 ?_ ?_ ?_ rfl (fun w1=>?_) (fun w1 hl=>?_) ?_
 rotate_left 4
 ·exact yR.out _ w1 (HSL.out w1 hl)
 rotate_left
 ·go_simp
 simp only[eA,eB,eC,Act.put,eD,eE,eF]
 refine bg (t:=9) (i:=9) (by kernel_rfl) rfl (fun w1 hl K hK=>?_)
 obtain⟨hS,_,_,hK2⟩:=HF.out w1 (Later.trans _ _ _ hlA hl)
 have hsz:=hK2.others.size
 go_simp
 refine(RJ.out _ hS (by omega)).mono ?_
 rintro e w2 ⟨rfl,hS3,hK3⟩
 refine hK.out _ _ (fun h=>absurd rfl h) ?_
 clear hK K hl HF hS
 obtain⟨a,c,hS3⟩:=hS3
 have Bg:=hK2.trans hK3
 refine aV (by kernel_rfl) (fun w1 hl=>?_) _
 have hS4:=hS3.kept hl
 go_wp2
 go_end0
 exact⟨rfl,⟨a,c,hS4⟩,Bg.trans (dD.below (by have:=hS3.box.lt;omega) hl)⟩
def Yd(r base:Nat)(g:Nat×Nat)(n cap i:Nat)(l:List UInt8)(X:List Lx)(k p:Nat)(c:Nat)(A:Sum (Nat×Nat) (Lx×Nat))(u:World)(ps pc:Nat):Prop :=
 if c=92 then Calls Tryz.prog 221 #[.pointer (some ⟨r,0,none⟩)] u (lG r base g n cap i l X k p u A)
 else if c=91 then Calls Tryz.prog 222 #[.pointer (some ⟨r,0,none⟩)] u (lG r base g n cap i l X k p u A)
 else if c=123 then Calls Tryz.prog 223 #[.pointer (some ⟨r,0,none⟩)] u (lG r base g n cap i l X k p u A)
 else if c=46 then Calls Tryz.prog 224 #[.pointer (some ⟨ps,0,none⟩)] u (lG r base g n cap i l X k p u A)
 else if c=93∨c=125∨c=10 then Calls Tryz.prog 227 #[.pointer (some ⟨ps,0,none⟩)] u (lG r base g n cap i l X k p u A)
 else Calls Tryz.prog 229 #[.pointer (some ⟨r,0,none⟩)] u (fun e u'=>e=.returned (.bool true)∧lG r base g n cap i l X k p u A (.returned (.tuple #[])) u') ∨
  (Calls Tryz.prog 229 #[.pointer (some ⟨r,0,none⟩)] u (bF u (.bool false))∧∀ u1,Below u.heap.size u u1→Calls Tryz.prog 230 #[.pointer (some ⟨ps,0,none⟩),.pointer (some ⟨pc,0,none⟩)] u1 (lG r base g n cap i l X k p u1 A))
theorem aaC(r base:Nat)(g:Nat×Nat)(n cap i:Nat)(l:List UInt8)(X:List Lx)(v:Value)(k p:Nat)(A:Sum (Nat×Nat) (Lx×Nat))(w:World)(h:fE w r base g n cap i l X v k p)(hr:r<base)(hb:base≤w.heap.size)(hi:i<l.length)
  (HM:Hid (∀ u,fE u r base g n cap i l X v k p→base≤u.heap.size→∀ ps pc,Box u ps #[.pointer (some ⟨r,0,none⟩)] 302→Box u pc #[.int .u8 (l[i]).toNat] 5→Yd r base g n cap i l X k p (l[i]).toNat A u ps pc)) :
  Calls Tryz.prog 181 #[.pointer (some ⟨r,0,none⟩)] w (lG r base g n cap i l X k p w A):=by
 have hlen:=h.byte.1
 have hn63:=h.byte.2.1
 have hby:=fun u (hu:fE u r base g n cap i l X v k p)=>hu.byte.2.2 i hi
 have hin2:i<n:=by omega
 generalize (l[i]).toNat=c at *
 have hi0:(0:Int)≤(i:Int):=by omega
 have hin:(i:Int)<(n:Int):=by omega
 have OD:=ah hby
 have h1:=h.kept (aj w (.cells #[.pointer (some ⟨r,0,none⟩)] 302))
 have hp1:=Box.new w #[.pointer (some ⟨r,0,none⟩)] 302
 have hk1:=dD.below (base:=base) (by omega:r≤w.heap.size) (aj w (.cells #[.pointer (some ⟨r,0,none⟩)] 302))
 have y0:=hp1.cell 0
 generalize hps:w.heap.size=ps at *
 clear hby h hi hlen
 go_enter Tryz.func181,Tryz.ntmps181
 go_wp2_with fail
 generalize (w.alloc (.cells #[.pointer (some ⟨r,0,none⟩)] 302))=W0 at *
 have HF:Hid (∀ u,Later W0.drew u→fE u r base g n cap i l X v k p∧Box u ps #[.pointer (some ⟨r,0,none⟩)] 302∧dD r base w u):=ah fun u hl=>⟨(h1.kept (Below.refl _ _).drew).kept hl,hp1.drew.kept hl,hk1.trans ((dD.below (base:=base) (by have:=h1.box.lt;omega) (Below.refl W0.heap.size W0).drew).trans (dD.below (by show r≤W0.heap.size;have:=h1.box.lt;omega) hl))⟩
 clear h1 hp1 hk1
 refine aO (R:=Later) 11 (by kernel_rfl) ?_
 refine pl [0,1,2,3,4,5,6,7,8,9] ?_
 repeat
  refine dR ?_ rfl (fun w1 hl=>?_) ?_
  rotate_left
  ·obtain⟨hS,hp,_⟩:=HF.out w1 hl;have y0:=hp.cell 0;obtain⟨x0,x1,x2,x3,x4⟩:=hS.cells;have c0:=OD.out w1 hS;go_simp;try with_reducible rfl
  simp only[eA,eB,eC,Act.put,eD,eE,eF]
 refine bV ?_
 refine bg (t:=11) (i:=10) (by kernel_rfl) rfl (fun w1 hl K hK=>?_)
 obtain⟨hS,hp,hK2⟩:=HF.out w1 hl
 have hsz:=hK2.others.size
 have hpl:=hp.lt
 clear hl HF
 go_simp
 refine hK.out _ _ (fun _=>aj _ _) ?_
 clear hK K
 have hpc:=Box.new w1 #[.int .u8 0] 5
 have hS1:=hS.kept (aj w1 (.cells #[.int .u8 0] 5))
 have hp1:=hp.kept (aj w1 (.cells #[.int .u8 0] 5))
 have hK1:=hK2.trans (dD.below (base:=base) (by omega) (aj w1 (.cells #[.int .u8 0] 5)))
 have hrb:r≠w1.heap.size:=by omega
 have hbb:base≤w1.heap.size:=by omega
 have Jp:ps≠w1.heap.size:=by omega
 clear hS hK2 hp hpl hsz
 generalize hbq:w1.heap.size=pc at *
 clear hbq
 refine bg (t:=11) (i:=11) (by kernel_rfl) rfl (fun w1 hl K hK=>?_)
 have RN:=hpc.kept hl
 have hS2:=hS1.kept hl
 have hp2:=hp1.kept hl
 have hK2:=hK1.trans (dD.below (base:=base) (by have:=hS1.box.lt;omega) hl)
 have r0:=RN.cell 0
 have s0:=RN.free 0
 clear hpc hS1 hp1 hK1 hl
 go_simp
 refine hK.out _ _ (fun h=>absurd rfl h) ?_
 clear hK K r0 s0
 have ah1:Box _ pc #[.int .u8 c] 5:=RN.set 0 (.int .u8 c)
 have hS3:=hS2.late RN hrb hbb 0 (.int .u8 c)
 have hp3:=hp2.other ⟨pc,0,none⟩ (.int .u8 c) Jp
 have hK3:=hK2.trans (dD.late (r:=r) (base:=base) w1 (i:=0) hbb (by omega) (.int .u8 c))
 clear RN hS2 hp2 hK2
 refine aV (by kernel_rfl) (fun w1 hl=>?_) _
 have Ye:=ah1.kept hl
 have hS4:=hS3.kept hl
 have FM:=hp3.kept hl
 have hK4:=hK3.trans (dD.below (base:=base) (by have:=hS3.box.lt;omega) hl)
 clear ah1 hS3 hp3 hK3 hl
 have BO:=hK4.others.size
 have y0:=FM.cell 0
 have y1:=Ye.cell 0
 have hm:=HM.out _ hS4 (by omega) _ _ FM Ye
 clear HM
 unfold Yd at hm
 by_cases q92:c=92
 ·rw[if_pos q92] at hm
  have e92:((c:Int)==92)=true:=by rw[q92];rfl
  clear q92
  go_wp2_with fail
  refine hm.mono ?_
  intro e uf hf
  obtain rfl:=hf.ret
  go_wp2
  go_end0
  exact hf.over hK4
 have e92:((c:Int)==92)=false:=by simp;omega
 rw[if_neg q92] at hm
 clear q92
 by_cases q91:c=91
 ·rw[if_pos q91] at hm
  have e91:((c:Int)==91)=true:=by rw[q91];rfl
  clear q91
  go_wp2_with fail
  refine hm.mono ?_
  intro e uf hf
  obtain rfl:=hf.ret
  go_wp2
  go_end0
  exact hf.over hK4
 have e91:((c:Int)==91)=false:=by simp;omega
 rw[if_neg q91] at hm
 clear q91
 by_cases RP:c=123
 ·rw[if_pos RP] at hm
  have aoc:((c:Int)==123)=true:=by rw[RP];rfl
  clear RP
  go_wp2_with fail
  refine hm.mono ?_
  intro e uf hf
  obtain rfl:=hf.ret
  go_wp2
  go_end0
  exact hf.over hK4
 have aoc:((c:Int)==123)=false:=by simp;omega
 rw[if_neg RP] at hm
 clear RP
 by_cases q46:c=46
 ·rw[if_pos q46] at hm
  have e46:((c:Int)==46)=true:=by rw[q46];rfl
  clear q46
  go_wp2_with fail
  refine hm.mono ?_
  intro e uf hf
  obtain rfl:=hf.ret
  go_wp2
  go_end0
  exact hf.over hK4
 have e46:((c:Int)==46)=false:=by simp;omega
 rw[if_neg q46] at hm
 clear q46
 by_cases V8:c=93
 ·rw[if_pos (.inl V8)] at hm
  have e93:((c:Int)==93)=true:=by rw[V8];rfl
  clear V8
  go_wp2_with fail
  refine hm.mono ?_
  intro e uf hf
  obtain rfl:=hf.ret
  go_wp2
  go_end0
  exact hf.over hK4
 have e93:((c:Int)==93)=false:=by simp;omega
 by_cases RQ:c=125
 ·rw[if_pos (.inr (.inl RQ))] at hm
  have e125:((c:Int)==125)=true:=by rw[RQ];rfl
  clear V8 RQ
  go_wp2_with fail
  refine hm.mono ?_
  intro e uf hf
  obtain rfl:=hf.ret
  go_wp2
  go_end0
  exact hf.over hK4
 have e125:((c:Int)==125)=false:=by simp;omega
 by_cases q10:c=10
 ·rw[if_pos (.inr (.inr q10))] at hm
  have e10:((c:Int)==10)=true:=by rw[q10];rfl
  clear V8 RQ q10
  go_wp2_with fail
  refine hm.mono ?_
  intro e uf hf
  obtain rfl:=hf.ret
  go_wp2
  go_end0
  exact hf.over hK4
 have e10:((c:Int)==10)=false:=by simp;omega
 rw[if_neg (by omega)] at hm
 clear V8 RQ q10
 rcases hm with hm | ⟨hs,hm⟩
 ·go_wp2_with fail
  refine hm.mono ?_
  rintro e uf ⟨rfl,hf⟩
  go_wp2
  go_end0
  exact hf.over hK4
 go_wp2_with fail
 refine hs.mono ?_
 rintro e u5 ⟨rfl,bI⟩
 have hf:=hm _ bI
 clear hm hs
 have hp5:=FM.kept bI
 have aod:=Ye.kept bI
 have hK6:=hK4.trans (dD.below (base:=base) (by have:=hS4.box.lt;omega) bI)
 have z0:=hp5.cell 0
 have z1:=aod.cell 0
 clear y0 y1 hS4 FM Ye
 go_wp2_with fail
 refine hf.mono ?_
 intro e uf hf
 obtain rfl:=hf.ret
 go_wp2
 go_end0
 exact hf.over hK6
end
section
open Go.RowKit
theorem aaG{l:List UInt8}{i j:Nat}{x:Lx}(hi:i<l.length)(h:nM l i=.inr (x,j)):i<j:=by
 unfold nM at h
 dsimp only at h
 split at h
 ·cases h
 split at h
 ·cases h
 split at h
 ·cases h;omega
 ·cases h;omega
theorem OE{l:List UInt8}{i kd ps:Nat}(h:nM l i=.inl (kd,ps)):kd≠0:=by
 unfold nM at h
 dsimp only at h
 split at h
 ·cases h;decide
 split at h
 ·cases h;decide
 split at h
 ·cases h
 ·cases h
theorem agX(r base:Nat)(g:Nat×Nat)(n cap i:Nat)(l:List UInt8)(X:List Lx)(v:Value)(k p:Nat)(w:World)(h:fE w r base g n cap i l X v k p)(hr:r<base)(hb:base≤w.heap.size)(hi:i<l.length)(hX:X.length≤4294967296)(hS:FD l) :
  Calls Tryz.prog 181 #[.pointer (some ⟨r,0,none⟩)] w (lG r base g n cap i l X k p w (nM l i)):=by
 have hgd:l.getD i 0=l[i]:=by simp[List.getD_eq_getElem?_getD,hi]
 have hin:i<n:=by have:=h.byte.1;omega
 refine aaC r base g n cap i l X v k p _ w h hr hb hi (ah fun u hu hbu ps pc hp hpc=>?_)
 unfold Yd nM
 rw[hgd]
 dsimp only
 have ho:=hS _ (List.getElem_mem hi)
 rw[if_neg ho.1,if_neg ho.2.1,if_neg ho.2.2.1,if_neg ho.2.2.2,if_neg (by omega:¬ ((l[i]).toNat=92∨(l[i]).toNat=91∨(l[i]).toNat=123∨(l[i]).toNat=46))]
 by_cases c5:(l[i]).toNat=93∨(l[i]).toNat=125∨(l[i]).toNat=10
 ·rw[if_pos c5,if_pos c5];exact agW r base g n cap i l X v k p ps _ u hu hr hp
 rw[if_neg c5,if_neg c5]
 have hs:=agV r base g n cap i l X v k p u hu hr hbu hX hi
 by_cases c6:nK (l[i]).toNat=0
 ·rw[if_pos c6]
  exact .inr ⟨hs.mono fun e u' h=>by unfold qg at h;rwa[if_pos c6] at h,fun u1 hB=>aaB r base g n cap i l X v k p ps pc _ _ u1 (hu.kept hB) hr (by have:=hB.size;omega) (hp.kept hB) (hpc.kept hB) (l[i]).toNat_lt hin hX⟩
 ·rw[if_neg c6]
  exact .inl (hs.mono fun e u' h=>by
   unfold qg at h
   rw[if_neg c6] at h
   exact⟨h.1,rfl,h.2⟩)
end
section
open Go.RowKit
theorem jH{P:Program}{fn:Func}{R:Ending→World→Prop}{a:Act}{w:World}{p q:Tmp}{KN b2 E2:Nat}{cs2:Array Value}{d2:TypeDesc}{v1:Value}
  (hr:fn.results=#[.tmp p,.cell q KN]) (hp:a.tmps.getD p undef=v1) (hq:a.tmps.getD q undef=.pointer (some ⟨b2,0,none⟩)) (hb2:Box w b2 cs2 E2)
  (hu2:P.underlying KN=some d2) (hd2:(match d2 with | .struct _ | .array _ _=>true | _=>false)=true) (hi2:(P.info? KN).map (·.size)=some cs2.size)
  (hdf:a.defers=[]) (hR:R (.returned (.tuple #[v1,.agg cs2])) w):bodyPost P fn R .ret a w :=
 ⟨hdf,_,by
  have hp':a.tmps[p]?.getD undef=v1:=by simpa using hp
  have hq':a.tmps[q]?.getD undef=.pointer (some ⟨b2,0,none⟩):=by simpa using hq
  simp[results,hr,hp',hq',asAddr,run_loadVar_row w b2 E2 KN cs2 (0,0) d2 hb2 hu2 hd2 hi2],hR⟩
def adC(w:World)(l:List UInt8)(e:Ending)(w':World):Prop :=
 Below w.heap.size w w'∧match ku l with
  | .inl q=>e=.returned (.tuple #[.slice none 0 0,iw q.1 q.2])
  | .inr X=>∃ a c,e=.returned (.tuple #[.slice a X.length c,iw 0 0])∧Own w' w.heap.size 221 8 gX (.slice a X.length c) X
def measS(r n:Nat)(W:World):Nat:=match W.cell? ⟨r,1,none⟩ with
 | some (.int _ i)=>n - i.toNat
 | _=>0
theorem RS{W:World}{r base:Nat}{g:Nat×Nat}{n cap i:Nat}{l:List UInt8}{X:List Lx}{v:Value}{k p:Nat}(h:fE W r base g n cap i l X v k p):measS r n W=n - i:=by
 unfold measS
 rw[h.cells.2.1]
 simp
def aaH(w:World)(g:Nat×Nat)(n cap:Nat)(l:List UInt8)(ANS:Sum (Nat×Nat) (List Lx))(W:World):Prop :=
 ∃ (i f:Nat) (X:List Lx) (a:Option Addr) (c:Nat),fE W (w.heap.size+1) (w.heap.size+1+1) g n cap i l X (.slice a X.length c) 0 0∧Box W w.heap.size #[.int .i64 0,.int .i64 0] 66∧Below w.heap.size w W∧lexFrom l f i X=ANS∧l.length<f+i∧X.length≤i
theorem aaI(g:Nat×Nat)(n cap:Nat)(l:List UInt8)(w:World)(h:au w (.slice (some ⟨g.1,g.2,none⟩) n cap) 1 gI l)(hg:g.1<w.heap.size)(hS:FD l) :
  Calls Tryz.prog 134 #[.slice (some ⟨g.1,g.2,none⟩) n cap] w (adC w l):=by
 have hlen:=h.cellsA.1
 have qC:=ah hS
 clear hS
 have hx0:=Box.new w #[.int .i64 0,.int .i64 0] 66
 by_cases hbig:65536<n
 ·have e1:decide (65536<(n:Int))=true:=by simp;omega
  have hans:ku l=.inl (4,65536):=by unfold ku;rw[if_pos (by omega)]
  have HA:=ah hans
  have c0:=hx0.cell 0
  have c1:=hx0.cell 1
  have f0:=hx0.free 0
  have f1:=hx0.free 1
  clear h hg hans hlen
  go_enter Tryz.func134,Tryz.ntmps134
  go_wp2
  refine jH Tryz.results134 rfl rfl (cs2:=#[.int .i64 4,.int .i64 65536]) (E2:=66) ?_ Tryz.underlying66 rfl (by kernel_rfl) rfl ⟨?_,by rw[HA.out];rfl⟩
  ·first | exact(hx0.set 0 (.int .i64 4)).set 1 (.int .i64 65536) | exact Box.new _ _ _
  ·go_grown
 ·have e1:decide (65536<(n:Int))=false:=by simp;omega
  have hans:ku l=lexFrom l (l.length+1) 0 []:=by unfold ku;rw[if_neg (by omega)]
  obtain⟨ANS,hA⟩:∃ ANS,lexFrom l (l.length+1) 0 []=ANS:=⟨_,rfl⟩
  have hb0:Below w.heap.size w ((w.alloc (.cells #[.int .i64 0,.int .i64 0] 66)).alloc (.cells (spC g n cap 0 (.slice none 0 0) 0 0) 271)):=((Below.refl _ w).alloc (Nat.le_refl _) _).alloc (by simp) _
  have C9:aaH w g n cap l ANS ((w.alloc (.cells #[.int .i64 0,.int .i64 0] 66)).alloc (.cells (spC g n cap 0 (.slice none 0 0) 0 0) 271)) :=
   ⟨0,l.length+1,[],none,0,⟨Box.new' (by simp) _ _,h.kept hb0,Own.nil _ _ _ _ _,by omega,by omega⟩,hx0.alloc _,hb0,hA,by omega,Nat.le_refl _⟩
  rw[hA] at hans
  have HA:=ah hans
  unfold spC at C9
  have HL:=ah hlen
  clear hans hA h hx0 hb0 hlen
  go_enter Tryz.func134,Tryz.ntmps134
  go_wp2
  go_loopw [] (fun wr=>aaH w g n cap l ANS wr) (fun wr=>measS (w.heap.size+1) n wr)
  case atStart=>exact C9
  case round =>
   clear C9
   obtain⟨i,f,X,a,c,hS,hX0,hB,hlf,hfu,hXl⟩:=hrel
   obtain⟨x0,x1,x2,x3,x4⟩:=hS.cells
   have hsz:=hS.box.lt
   by_cases hlt:i<n
   ·have hil:i<l.length:=by rw[←HL.out];exact hlt
    have ah2:=HL.out
    have hdi:decide ((i:Int)<(n:Int))=true:=decide_eq_true (by omega)
    have hnx:=agX (w.heap.size+1) (w.heap.size+1+1) g n cap i l X _ 0 0 wr hS (by omega) (by omega) hil (by omega) qC.out
    have hup:=fun x j=>@aaG l i j x hil
    have hne:=fun kd ps=>@OE l i kd ps
    obtain⟨f,rfl⟩:∃ f',f=f'+1:=⟨f - 1,by omega⟩
    rw[lexFrom,if_pos hil] at hlf
    have hm0:=RS hS
    cases hlx:nM l i with
    | inl q =>
     rw[hlx] at hnx hlf
     dsimp only at hlf
     subst hlf
     have hq:=hne q.1 q.2 hlx
     have ek:((q.1:Int) != 0)=true:=by simp;omega
     have HN:=ah hnx
     clear hnx hup hne hq ah2 hm0
     go_wp2_with fail
     refine HN.out.mono ?_
     rintro e w2 ⟨rfl,⟨a2,c2,hS2⟩,hK2⟩
     obtain⟨y0,y1,y2,y3,y4⟩:=hS2.cells
     have hX2:Box w2 w.heap.size #[.int .i64 0,.int .i64 0] 66:=hK2.cells.box (by show ¬ (_∨_);omega) hX0
     have hB2:Below w.heap.size w w2:=hB.trans (hK2.low.mono (by omega))
     go_wp2_with fail
     have HF:Hid (∀ u,Later w2.drew u→fE u (w.heap.size+1) (w.heap.size+1+1) g n cap i l X (.slice a2 X.length c2) q.1 q.2∧Box u w.heap.size #[.int .i64 0,.int .i64 0] 66∧Below w.heap.size w u):=ah fun u hl=>⟨(hS2.kept (Below.refl _ _).drew).kept hl,hX2.drew.kept hl,(hB2.trans ((Below.refl _ w2).drew.mono hB2.size)).trans (hl.mono hB2.size)⟩
     clear y0 y1 y2 y3 y4 x0 x1 x2 x3 x4 hS2 hX2 hB2 hK2 hS hX0 hB
     refine aO (R:=Later) 3 (by kernel_rfl) ?_
     refine pl [0,1,2] ?_
     repeat
      refine dR ?_ rfl (fun w1 hl=>?_) ?_
      rotate_left
      ·obtain⟨x0,x1,x2,x3,x4⟩:=(HF.out w1 hl).1.cells;go_simp;try with_reducible rfl
      simp only[eA,eB,eC,Act.put,eD,eE,eF]
     refine bV ?_
     refine bg (t:=3) (i:=3) (by kernel_rfl) rfl (fun w1 hl K hK=>?_)
     obtain⟨_,fD,hB3⟩:=HF.out w1 hl
     have r0:=fD.cell 0
     have r1:=fD.cell 1
     have s0:=fD.free 0
     have s1:=fD.free 1
     go_simp
     refine hK.out _ _ (fun h=>absurd rfl h) ?_
     clear hK K r0 r1 s0 s1
     have iR:=(fD.set 0 (.int .i64 q.1)).set 1 (.int .i64 q.2)
     have hB4:=(hB3.setCell (p:=⟨w.heap.size,0,none⟩) (by simp) (.int .i64 q.1)).setCell (p:=⟨w.heap.size,1,none⟩) (by simp) (.int .i64 q.2)
     clear fD hB3 HF hl
     refine aV (by kernel_rfl) (fun w1 hl=>?_) _
     have rY:=iR.kept hl
     have bI:=hB4.trans (hl.mono hB4.size)
     go_wp2
     exact jH Tryz.results134 rfl rfl rY Tryz.underlying66 rfl (by kernel_rfl) rfl ⟨bI,by rw[HA.out];rfl⟩
    | inr q =>
     rw[hlx] at hnx hlf
     dsimp only at hlf
     have hq:=hup q.1 q.2 hlx
     have HN:=ah hnx
     clear hnx hup hne ah2
     go_wp2_with fail
     refine HN.out.mono ?_
     rintro e w2 ⟨rfl,⟨a2,c2,hS2⟩,hK2⟩
     obtain⟨y0,y1,y2,y3,y4⟩:=hS2.cells
     have hX2:Box w2 w.heap.size #[.int .i64 0,.int .i64 0] 66:=hK2.cells.box (by show ¬ (_∨_);omega) hX0
     have hB2:Below w.heap.size w w2:=hB.trans (hK2.low.mono (by omega))
     have hm2:=RS hS2
     go_wp2
     go_roundw
     case rel =>
      exact⟨q.2,f,X++[q.1],a2,c2,hS2,hX2,hB2,hlf,by omega,by rw[List.length_append,List.length_singleton];omega⟩
     case measure=>rw[hm0,hm2];omega
   ·have hdi:decide ((i:Int)<(n:Int))=false:=decide_eq_false (by omega)
    have gV:ANS=.inr X:=by
     rw[←hlf]
     cases f with
     | zero=>rfl
     | succ f=>rw[lexFrom,if_neg (by rw[←HL.out];exact hlt)]
    subst gV
    have c0:=hX0.cell 0
    have c1:=hX0.cell 1
    have f0:=hX0.free 0
    have f1:=hX0.free 1
    have HS:=ah hS
    clear hlf hS
    go_wp2
    have fD:=(hX0.set 0 (.int .i64 0)).set 1 (.int .i64 0)
    exact jH Tryz.results134 rfl rfl fD Tryz.underlying66 rfl (by kernel_rfl) rfl ⟨(hB.setCell (by simp) _).setCell (by simp) _,by rw[HA.out];exact⟨a,c,rfl,((HS.out.out.mono (by omega)).lD hX0 (by decide) 0 _).lD (hX0.set 0 _) (by decide) 1 _⟩⟩
end
section
open Go.RowKit
def qE(k:Int)(a:Option Addr)(cap:Nat):List Vt→Vt
 | [x]=>x
 | l=>.mk k 0 a cap l 0 0
theorem RU(k:Int)(a:Option Addr)(cap:Nat)(l:List Vt):(qE k a cap l).tr=Bf k (l.map Vt.tr):=by
 match l with
 | []=>exact Vt.jU _ _ _ _ _ _ _
 | [x]=>rfl
 | x::y::r=>exact Vt.jU _ _ _ _ _ _ _
theorem KO(k:Int)(l:List Vt)(a:Option Addr)(cap:Nat)(w:World)(sA:au w (.slice a l.length cap) 8 Vt.cells l) :
  Calls Tryz.prog 235 #[.int .i64 k,.slice a l.length cap] w (fun e w'=>e=.returned (.agg (qE k a cap l).cells.toArray)∧Below w.heap.size w w'):=by
 by_cases h1:l.length=1
 ·obtain⟨V,rfl⟩:∃ V,l=[V]:=by
   match l,h1 with
   | [V],_=>exact⟨V,rfl⟩
  obtain⟨b,o,c1,c2,c3,c4,c5⟩:=sA.kids
  obtain rfl:=c3 0 (by simp)
  have bB:Below w.heap.size w (w.alloc (.cells bJ 115)):=by go_grown
  have e1:=c5 0 (by simp) _ bB
  simp only[List.length_singleton]
  have hbl:=c4 (by simp)
  clear sA c3 c4 c5 h1
  simp only[List.getElem_cons_zero] at e1
  obtain⟨k1,s1,a1,AY,yS,lo1,hi1⟩:=V
  obtain⟨y0,y1,y2,y3,y4,y5,y6,y7⟩:=qI e1
  simp only[Nat.zero_mul,Nat.add_zero] at y0 y1 y2 y3 y4 y5 y6 y7
  clear e1
  go_enter Tryz.func235,Tryz.ntmps235
  go_wp2
  exact eH Tryz.results235 rfl (cs:=(aI k1 s1 a1 yS.length AY lo1 hi1).toArray) (Box.new _ _ _) Tryz.underlying115 rfl (by kernel_rfl) rfl ⟨rfl,by go_grown⟩
 ·have g1:(((l.length:Nat):Int)==1)=false:=by rw[beq_eq_false_iff_ne];omega
  have hf:qE k a cap l=.mk k 0 a cap l 0 0:=by
   match l,h1 with
   | [],_=>rfl
   | _::_::_,_=>rfl
  have hz:(Vt.mk k 0 a cap l 0 0).cells=[.int .i64 k,.int .u64 0,.int .u64 0,.int .u64 0,.int .u64 0,.slice a l.length cap,.int .i64 0,.int .i64 0]:=by
   show aI k 0 a l.length cap 0 0=_
   simp only[aI,qG];rfl
  rw[hf,hz]
  clear sA hf hz h1
  generalize l.length=n at *
  go_enter Tryz.func235,Tryz.ntmps235
  go_wp2
  exact eH Tryz.results235 rfl (cs:=#[.int .i64 k,.int .u64 0,.int .u64 0,.int .u64 0,.int .u64 0,.slice a n cap,.int .i64 0,.int .i64 0]) (Box.new _ _ _) Tryz.underlying115 rfl (by kernel_rfl) rfl ⟨rfl,by go_grown⟩
end
section
open Go.RowKit
def qj(x:Lx):Prop:=(x.kind=1∧x.lo=0∧x.hi=0)∨(2≤x.kind∧x.kind<8∧x.set=0∧x.lo=0∧x.hi=0)∨(x.kind=8∧x.set=0∧0≤x.lo∧x.lo≤1000∧(x.hi=-1∨x.lo≤x.hi∧x.hi≤1000))
structure aS(r:Nat)(ov:Value)(w w':World):Prop where
 low:Below r w w'
 block:∀ b,b<w.heap.size→b≠r→ov.ownBlock≠some b→w'.heap[b]?=w.heap[b]?
def fC(w:World)(ov pU:Value):Prop:=∀ g,pU.ownBlock=some g→ov.ownBlock=some g∨w.heap.size≤g
theorem fC.refl(w:World)(ov:Value):fC w ov ov:=fun _ h=>.inl h
theorem fC.trans{w w1:World}{ov yw FN:Value}(f:fC w ov yw)(hs:w.heap.size≤w1.heap.size)(k:fC w1 yw FN):fC w ov FN:=fun g hg=>by
 rcases k g hg with h | h
 ·exact f g h
 ·exact .inr (by omega)
theorem fC.ne{w:World}{ov pU:Value}{b:Nat}(f:fC w ov pU)(hb:b<w.heap.size)(h:ov.ownBlock≠some b):pU.ownBlock≠some b:=fun e=>by
 rcases f b e with h1 | h1
 ·exact h h1
 ·omega
theorem aS.refl(r:Nat)(ov:Value)(w:World):aS r ov w w:=⟨Below.refl _ _,fun _ _ _ _=>rfl⟩
theorem aS.trans{r:Nat}{ov yw:Value}{a b c:World}(h:aS r ov a b)(f:fC a ov yw)(k:aS r yw b c):aS r ov a c :=
 ⟨h.low.trans k.low,fun x hx hr hg=>by rw[k.block x (Nat.lt_of_lt_of_le hx h.low.size) hr (f.ne hx hg),h.block x hx hr hg]⟩
theorem aS.tr{r:Nat}{ov:Value}{a b c:World}(h:aS r ov a b)(k:aS r ov b c):aS r ov a c:=h.trans (fC.refl _ _) k
theorem aS.below{r:Nat}{ov:Value}{w w':World}(hr:r≤w.heap.size)(h:Below w.heap.size w w'):aS r ov w w':=⟨h.mono hr,fun b hb _ _=>h.block b hb⟩
theorem aS.set{r:Nat}{ov:Value}(w:World)(i:Nat)(v:Value):aS r ov w (w.setCell ⟨r,i,none⟩ v):=⟨(Below.refl r w).setCell (by simp) v,fun b _ hr _=>heap_setCell_other w ⟨r,i,none⟩ b v hr⟩
theorem aS.later{r:Nat}{ov:Value}{w w':World}(h:aS r ov w w'){a:Addr}(ha:w.heap.size≤a.block)(hr:r≤a.block)(v:Value):aS r ov w (w'.setCell a v) :=
 ⟨h.low.setCell hr v,fun b hb h1 h2=>(heap_setCell_other w' a b v (by omega)).trans (h.block b hb h1 h2)⟩
theorem aS.alloc{r:Nat}{ov:Value}{w w':World}(h:aS r ov w w')(hr:r≤w'.heap.size)(o:Obj):aS r ov w (w'.alloc o):=h.tr (aS.below hr ((Below.refl _ _).alloc (Nat.le_refl _) o))
theorem aS.grown{r:Nat}{ov:Value}{w w':World}(hg:w.grownBy w' ov.ownBlock)(hr:r≤w.heap.size)(h:∀ g,ov.ownBlock=some g→r≤g):aS r ov w w' :=
 ⟨⟨hg.os,hg.tape,hg.output,hg.size,fun k hk=>hg.block k (by omega) fun e=>by have:=h k e.symm;omega⟩,fun b hb _ h2=>hg.block b hb fun e=>h2 e.symm⟩
theorem aS.FP{r:Nat}{ov:Value}{w0 w w':World}(h:aS r ov w0 w){row:Option Nat}(hg:w.grownBy w' row)(hr:r≤w.heap.size)(hn:∀ g,row=some g→r≤g∧w0.heap.size≤g):aS r ov w0 w' :=
 ⟨h.low.trans ⟨hg.os,hg.tape,hg.output,hg.size,fun k hk=>hg.block k (by omega) fun e=>by have:=hn k e.symm;omega⟩,
  fun b hb h1 h2=>by rw[hg.block b (Nat.lt_of_lt_of_le hb h.low.size) fun e=>by have:=hn b e.symm;omega];exact h.block b hb h1 h2⟩
theorem Own.eG{α:Type}{w w':World}{base E size:Nat}{enc:α→List Value}{v:Value}{xs:List α}(h:Own w base E size enc v xs)(hb:∀ g,v.ownBlock=some g→w'.heap[g]?=w.heap[g]?):Own w' base E size enc v xs:=by
 obtain⟨a,cap,rfl,hle,hm,hh⟩:=h
 refine⟨a,cap,rfl,hle,hm,?_⟩
 rcases hh with hh | ⟨g,cur,rfl,hbg,hg,hr⟩
 ·exact .inl hh
 ·exact .inr ⟨g,cur,rfl,hbg,(hb g rfl).trans hg,hr⟩
theorem Own.je{α:Type}{w:World}{base E size:Nat}{enc:α→List Value}{v:Value}{xs:List α}(h:Own w base E size enc v xs)(g:Nat)(hg:v.ownBlock=some g):base≤g∧g<w.heap.size:=by
 obtain⟨a,cap,rfl,_,_,hh⟩:=h
 rcases hh with⟨rfl,_⟩ | ⟨g',cur,rfl,hb,hg',_⟩
 ·simp[Value.ownBlock] at hg
 ·simp[Value.ownBlock] at hg;subst hg;exact⟨hb,hg'.lt⟩
structure fG(w:World)(r:Nat)(ov:Value)(m:Nat)(V:Vt):Prop where
 lies:Lies w V
 on:On (fun b=>m≤b∧b≠r∧ov.ownBlock≠some b) V
theorem fG.kept{w w':World}{r m:Nat}{ov pU:Value}{V:Vt}(h:fG w r ov m V)(k:aS r ov w w')(f:fC w ov pU):fG w' r pU m V :=
 ⟨h.lies.fK (h.on.and h.lies.on) fun b ⟨⟨_,h1,h2⟩,h3⟩=>k.block b h3 h1 h2,(h.on.and h.lies.on).mono fun _ ⟨⟨h0,h1,h2⟩,h3⟩=>⟨h0,h1,f.ne h3 h2⟩⟩
theorem fG.eG{w w':World}{r m:Nat}{ov:Value}{V:Vt}(h:fG w r ov m V)(hb:Below w.heap.size w w'):fG w' r ov m V:=⟨h.lies.kept hb,h.on⟩
theorem fG.mono{w:World}{r m m':Nat}{ov:Value}{V:Vt}(h:fG w r ov m V)(hm:m'≤m):fG w r ov m' V:=⟨h.lies,h.on.mono fun _ ⟨h0,h1,h2⟩=>⟨by omega,h1,h2⟩⟩
theorem fG.new{w w':World}{r m:Nat}{ov:Value}{V:Vt}(hl:Lies w' V)(ho:On (fun b=>w.heap.size≤b) V)(hr:r<w.heap.size)(hm:m≤w.heap.size)(hov:∀ g,ov.ownBlock=some g→g<w.heap.size):fG w' r ov m V :=
 ⟨hl,ho.mono fun _ hb=>⟨by omega,by omega,fun e=>by have:=hov _ e;omega⟩⟩
end
end Go.Proofs.YtengfapcaaacaaaGreatDoor
