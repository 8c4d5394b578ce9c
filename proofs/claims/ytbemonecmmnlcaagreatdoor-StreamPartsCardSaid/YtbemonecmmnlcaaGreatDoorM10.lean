/- The texts of S10, in few letters (mini.py). -/
import Derived.Test.YtbemonecmmnlcaaGreatDoorM9
set_option linter.unusedVariables false
set_option linter.unusedSimpArgs false
set_option maxRecDepth 20000
set_option maxHeartbeats 3200000
namespace Go.Proofs.YtbemonecmmnlcaaGreatDoor
section
open Go.RowKit
def fE(x:Lx):List Value:=[.int .i64 x.kind,.int .i64 x.at',.int .u64 (word x.set 0:Nat),.int .u64 (word x.set 1:Nat),.int .u64 (word x.set 2:Nat),.int .u64 (word x.set 3:Nat),.int .i64 x.lo,.int .i64 x.hi]
theorem uH:eH fE 8:=⟨fun _=>rfl,fun x u hu=>by
 simp[fE] at hu
 rcases hu with rfl | rfl | rfl | rfl | rfl | rfl | rfl | rfl <;> rfl⟩
theorem Zx:dQ Tryz.prog 252 257 (.agg #[.int .i64 0,.int .i64 0,.int .u64 0,.int .u64 0,.int .u64 0,.int .u64 0,.int .i64 0,.int .i64 0]) 8 64:=⟨Tryz.underlying252,info_parts (by kernel_rfl),rfl,by decide⟩
theorem Gs:(Tryz.prog.info? 257).map (·.size)=some 8:=by kernel_rfl
def spC(g:Nat×Nat)(n cap i:Nat)(v:Value)(k p:Nat):Array Value:=#[.slice (some ⟨g.1,g.2,none⟩) n cap,.int .i64 i,v,.int .i64 k,.int .i64 p]
structure dK(w:World)(r base:Nat)(g:Nat×Nat)(n cap i:Nat)(l:List UInt8)(X:List Lx)(v:Value)(k p:Nat):Prop where
 box:Box w r (spC g n cap i v k p) 305
 sl:ak w (.slice (some ⟨g.1,g.2,none⟩) n cap) 1 bT l
 out:Own w base 257 8 fE v X
 ne:g.1≠r
 lt:g.1<base
theorem dK.kept{w w':World}{r base:Nat}{g:Nat×Nat}{n cap i:Nat}{l:List UInt8}{X:List Lx}{v:Value}{k p:Nat}(h:dK w r base g n cap i l X v k p)(hb:Below w.heap.size w w'):dK w' r base g n cap i l X v k p :=
 ⟨h.box.kept hb,h.sl.kept hb,h.out.kept hb,h.ne,h.lt⟩
theorem dK.cells{w:World}{r base:Nat}{g:Nat×Nat}{n cap i:Nat}{l:List UInt8}{X:List Lx}{v:Value}{k p:Nat}(h:dK w r base g n cap i l X v k p) :
  w.cell? ⟨r,0,none⟩=some (.slice (some ⟨g.1,g.2,none⟩) n cap)∧w.cell? ⟨r,1,none⟩=some (.int .i64 i)∧w.cell? ⟨r,2,none⟩=some v∧w.cell? ⟨r,3,none⟩=some (.int .i64 k)∧w.cell? ⟨r,4,none⟩=some (.int .i64 p) :=
 ⟨h.box.cell 0,h.box.cell 1,h.box.cell 2,h.box.cell 3,h.box.cell 4⟩
def qj(r base:Nat)(g:Nat×Nat)(n cap i:Nat)(l:List UInt8)(X:List Lx)(k p:Nat)(w:World)(u:Value)(e:Ending)(w':World):Prop :=
 e=.returned u∧(∃ a c,dK w' r base g n cap i l X (.slice a X.length c) k p)∧bM r base w w'
theorem dK.form{w:World}{r base:Nat}{g:Nat×Nat}{n cap i:Nat}{l:List UInt8}{X:List Lx}{v:Value}{k p:Nat}(h:dK w r base g n cap i l X v k p):∃ a c,v=.slice a X.length c:=h.out.form
theorem dK.Dl{w:World}{r base:Nat}{g:Nat×Nat}{n cap i:Nat}{l:List UInt8}{X:List Lx}{v:Value}{k p:Nat}(h:dK w r base g n cap i l X v k p)(j:Nat)(u:Value) :
  ak (w.setCell ⟨r,j,none⟩ u) (.slice (some ⟨g.1,g.2,none⟩) n cap) 1 bT l:=(bM.set (base:=base) w j u).cells.slice h.sl (fun _ ad e=>by cases e;show ¬ (g.1=r∨base≤g.1);have:=h.ne;have:=h.lt;omega)
theorem dK.place{w:World}{r base:Nat}{g:Nat×Nat}{n cap i:Nat}{l:List UInt8}{X:List Lx}{v:Value}{k p:Nat}(h:dK w r base g n cap i l X v k p)(hr:r<base)(j:Nat):dK (w.setCell ⟨r,1,none⟩ (.int .i64 (j:Nat))) r base g n cap j l X v k p :=
 ⟨h.box.set 1 _,h.Dl 1 _,h.out.other _ _ hr,h.ne,h.lt⟩
theorem dK.fault{w:World}{r base:Nat}{g:Nat×Nat}{n cap i:Nat}{l:List UInt8}{X:List Lx}{v:Value}{k p:Nat}(h:dK w r base g n cap i l X v k p)(hr:r<base)(k' p':Nat) :
  dK ((w.setCell ⟨r,3,none⟩ (.int .i64 (k':Nat))).setCell ⟨r,4,none⟩ (.int .i64 (p':Nat))) r base g n cap i l X v k' p' :=
 ⟨(h.box.set 3 _).set 4 _,(dK.Dl ⟨h.box.set 3 (.int .i64 (k':Nat)),h.Dl 3 _,h.out.other _ _ hr,h.ne,h.lt⟩ (k:=k') (p:=p) 4 _),(h.out.other _ _ hr).other _ _ hr,h.ne,h.lt⟩
theorem dK.append{w w' w2:World}{r base:Nat}{g:Nat×Nat}{n cap i:Nat}{l:List UInt8}{X:List Lx}{v:Value}{k p:Nat}{a':Option Addr}{n' c':Nat}{x:Lx}(h:dK w r base g n cap i l X v k p)(hr:r<base)(hg:w.grownBy w' v.ownBlock)
  (ho:Own w' base 257 8 fE (.slice a' n' c') (X++[x])) (hl:Below w'.heap.size w' w2):dK (w2.setCell ⟨r,2,none⟩ (.slice a' n' c')) r base g n cap i l (X++[x]) (.slice a' n' c') k p:=by
 have hb:=(h.box.iG h.out hg (by decide)).kept hl
 have hs:ak w' (.slice (some ⟨g.1,g.2,none⟩) n cap) 1 bT l:=(aJ.grown (X:=fun b=>base≤b) h.out hg (fun _ h=>h)).slice h.sl (fun _ ad e=>by cases e;show ¬ base≤g.1;have:=h.lt;omega)
 exact⟨hb.set 2 _,(bM.set (base:=base) w2 2 _).cells.slice (hs.kept hl) (fun _ ad e=>by cases e;show ¬ (g.1=r∨base≤g.1);have:=h.ne;have:=h.lt;omega),(ho.kept hl).other _ _ hr,h.ne,h.lt⟩
theorem ad8(r base:Nat)(g:Nat×Nat)(n cap i:Nat)(l:List UInt8)(X:List Lx)(v:Value)(k p:Nat)(x:Lx)(next:Nat)(w:World)(h:dK w r base g n cap i l X v k p)(hr:r<base)(hb:base≤w.heap.size)(hX:X.length≤4294967296) :
  Calls Tryz.prog 301 #[.pointer (some ⟨r,0,none⟩),.agg (fE x).toArray,.int .i64 next] w (qj r base g n cap next l (X++[{ x with at':=i }]) k p w (.tuple #[])):=by
 have h1:=h.kept (aj w (.cells (fE x).toArray 257))
 obtain⟨x0,x1,x2,x3,x4⟩:=h1.cells
 obtain⟨x',hx'⟩:∃ x':Lx,{ x with at':=i }=x':=⟨_,rfl⟩
 have he:(fE x).set 1 (.int .i64 i)=fE x':=by rw[←hx'];rfl
 rw[hx']
 have hx2:=Box.new w (fE x').toArray 257
 have h2:=h.kept (aj w (.cells (fE x').toArray 257))
 have hk2:=bM.below (base:=base) (by omega:r≤w.heap.size) (aj w (.cells (fE x').toArray 257))
 have hW:(w.alloc (.cells (fE x').toArray 257)).heap.size=w.heap.size+1:=by simp
 go_enter Tryz.func301,Tryz.ntmps301
 go_wp2_with fail
 generalize (w.alloc (.cells (fE x').toArray 257))=W2 at *
 clear h1 x0 x1 x2 x3 x4 he hx'
 have HF:Hid (∀ u,Later W2.drew u→dK u r base g n cap i l X v k p∧Box u w.heap.size (fE x').toArray 257∧bM r base w u):=ah fun u hl =>
  ⟨(h2.kept (Below.refl _ _).drew).kept hl,hx2.drew.kept hl,hk2.trans ((bM.below (base:=base) (by omega) (Below.refl W2.heap.size W2).drew).trans (bM.below (by show r≤W2.heap.size;omega) hl))⟩
 clear h2 hx2 hk2
 refine iQ (R:=Later) [7,10] (by kernel_rfl) ?_
 refine A8 (T:=[7,10]) (i:=5) rfl (by kernel_rfl) (by kernel_rfl) (by kernel_rfl) (by kernel_rfl) (fun _ _ _ h=>h) (by rfl) (fun w1 hl=>oV 257 _ rfl _ rfl ((HF.out w1 hl).2.1) Tryz.underlying257 rfl (Gs)) ?_
 simp only[eA,eB,eC,Act.put,eD,eE,eF]
 refine pl [0,1,2,3] ?_
 repeat
  refine oM ?_ rfl (fun w1=>?_) ?_
  rotate_left
  ·go_simp;try with_reducible rfl
  simp only[eA,eB,eC,Act.put,eD,eE,eF]
 refine eX ?_
 refine Ce 4 ?_ rfl (fun w1 hl=>?_) ?_
 rotate_left
 ·obtain⟨hS,_,_⟩:=HF.out w1 hl;obtain⟨x0,x1,x2,x3,x4⟩:=hS.cells;go_simp;try with_reducible rfl
 simp only[eA,eB,eC,Act.put,eD,eE,eF]
 refine dP (T:=[7,10]) (i:=6) (by kernel_rfl) rfl (fun w1 hl K hK=>?_)
 go_simp
 refine hK.out _ _ (fun _=>aj _ _) ?_
 have hsl:=ny uH w1 257 [x'] (by simp[maxLen])
 have hlA:Later _ (w1.alloc (.cells ([x'].flatMap fE).toArray 257)):=Later.trans _ _ _ hl (aj _ _)
 clear hK K hl
 refine dP (T:=[7,10]) (i:=7) (by kernel_rfl) rfl (fun w1 hl K hK=>?_)
 obtain⟨hS,_,hkp⟩:=HF.out w1 (Later.trans _ _ _ hlA hl)
 have hnw:=zY (hsl.kept hl)
 have hsw:base≤w1.heap.size:=by have:=hkp.others.size;omega
 clear hsl hl hlA
 obtain⟨a0,c0,rfl⟩:=hS.form
 refine eP (by rfl) ?_
 refine lF _ _ 252 rfl Zx uH rfl hS.out _ 1 x' rfl hnw (by simp[maxLen];omega) (by omega) (by omega) ?_
 intro a' cap' w' hown' hg hfr
 refine hK.out _ _ (fun h=>absurd h (by decide)) ?_
 clear hK K hnw
 simp only[List.getElem_toArray,List.getElem_cons_zero,List.getElem_cons_succ,Act.put,List.setIfInBounds_toArray,List.set_cons_zero,List.set_cons_succ]
 have hX0:=hS.box.iG hS.out hg (by decide)
 have hK0:=hkp.trans (bM.grown hS.out hg (Nat.le_of_lt hr) (by omega))
 refine pl [8,9] ?_
 repeat
  refine oM ?_ rfl (fun w1=>?_) ?_
  rotate_left
  ·go_simp;try with_reducible rfl
  simp only[eA,eB,eC,Act.put,eD,eE,eF]
 refine eX ?_
 refine dP (T:=[7,10]) (i:=10) (by kernel_rfl) rfl (fun w1 hl K hK=>?_)
 have hx:=hX0.kept hl
 have x0:=hx.cell 2
 have f0:=hx.free 2
 go_simp
 refine hK.out _ _ (fun h=>absurd h (by decide)) ?_
 clear hK K x0 f0
 have zX:=hS.append hr hg hown' hl
 have hKN:=(hK0.trans (bM.below (Nat.le_of_lt hX0.lt) hl)).trans (bM.set (base:=base) w1 2 (.slice a' (X.length+1) cap'))
 clear hl hx hX0 hK0 hS hg hown' hkp
 refine lC (by kernel_rfl) (fun w1 hl=>?_) _
 have zX:=zX.kept hl
 have hKN:=hKN.trans (bM.below (by have:=zX.box.lt;have:=hl.size;have:=hKN.others.size;omega) hl)
 clear hl HF
 obtain⟨x0,x1,x2,x3,x4⟩:=zX.cells
 have f1:=zX.box.free 1
 go_wp2
 go_end0
 exact⟨rfl,⟨a',cap',by rw[List.length_append];exact zX.place hr next⟩,hKN.trans (bM.set _ _ _)⟩
end
section
open Go.RowKit
theorem qj.over{r base:Nat}{g:Nat×Nat}{n cap i:Nat}{l:List UInt8}{X:List Lx}{k p:Nat}{w w1:World}{u:Value}{e:Ending}{w':World}(ho:bM r base w w1)(h:qj r base g n cap i l X k p w1 u e w'):qj r base g n cap i l X k p w u e w':=⟨h.1,h.2.1,ho.trans h.2.2⟩
abbrev ad9(k:Nat)(s:ay)(lo hi:Int):Value:=.agg #[.int .i64 k,.int .i64 0,.int .u64 (word s 0:Nat),.int .u64 (word s 1:Nat),.int .u64 (word s 2:Nat),.int .u64 (word s 3:Nat),.int .i64 lo,.int .i64 hi]
theorem dK.byte{w:World}{r base:Nat}{g:Nat×Nat}{n cap i:Nat}{l:List UInt8}{X:List Lx}{v:Value}{k p:Nat}(h:dK w r base g n cap i l X v k p):n=l.length∧n≤9223372036854775807∧∀ j (hj:j<l.length),w.cell? ⟨g.1,g.2+j,none⟩=some (.int .u8 (l[j]).toNat):=by
 obtain⟨h1,h2,h3,h4⟩:=h.sl.cellsA
 exact⟨h1,by omega,fun j hj=>h4 j hj w (Below.refl _ _)⟩
theorem acW(r base:Nat)(g:Nat×Nat)(n cap i:Nat)(l:List UInt8)(X:List Lx)(v:Value)(k p:Nat)(kd:Nat)(w:World)(h:dK w r base g n cap i l X v k p)(hr:r<base) :
  Calls Tryz.prog 273 #[.pointer (some ⟨r,0,none⟩),.int .i64 kd] w (qj r base g n cap i l X kd i w (.tuple #[])):=by
 obtain⟨x0,x1,x2,x3,x4⟩:=h.cells
 have f3:=h.box.free 3
 have f4:=h.box.free 4
 have HS:=ah h
 clear h
 go_enter Tryz.func273,Tryz.ntmps273
 go_wp2
 go_end0
 obtain⟨a,c,rfl⟩:=HS.out.form
 exact⟨rfl,⟨a,c,HS.out.fault hr kd i⟩,(bM.set _ _ _).trans (bM.set _ _ _)⟩
theorem RI(r base:Nat)(g:Nat×Nat)(n cap i:Nat)(l:List UInt8)(X:List Lx)(v:Value)(k p:Nat)(kd:Nat)(s:ay)(lo hi:Int)(next:Nat)(w:World)(h:dK w r base g n cap i l X v k p)(hr:r<base)(hb:base≤w.heap.size)(hX:X.length≤4294967296) :
  Calls Tryz.prog 301 #[.pointer (some ⟨r,0,none⟩),ad9 kd s lo hi,.int .i64 next] w (qj r base g n cap next l (X++[⟨kd,i,s,lo,hi⟩]) k p w (.tuple #[])) :=
 ad8 r base g n cap i l X v k p ⟨kd,0,s,lo,hi⟩ next w h hr hb hX
theorem acX(r base:Nat)(g:Nat×Nat)(n cap i:Nat)(l:List UInt8)(X:List Lx)(v:Value)(k p:Nat)(kd:Nat)(lo hi:Int)(next:Nat)(w:World)(h:dK w r base g n cap i l X v k p)(hr:r<base)(hb:base≤w.heap.size)(hX:X.length≤4294967296) :
  Calls Tryz.prog 301 #[.pointer (some ⟨r,0,none⟩),.agg #[.int .i64 kd,.int .i64 0,.int .u64 0,.int .u64 0,.int .u64 0,.int .u64 0,.int .i64 lo,.int .i64 hi],.int .i64 next] w (qj r base g n cap next l (X++[⟨kd,i,0,lo,hi⟩]) k p w (.tuple #[])):=by
 have:=RI r base g n cap i l X v k p kd 0 lo hi next w h hr hb hX
 simp only[ad9,oI] at this
 exact this
theorem aea(r base:Nat)(g:Nat×Nat)(n cap i:Nat)(l:List UInt8)(X:List Lx)(v:Value)(k p:Nat)(s:ay)(next:Nat)(w:World)(h:dK w r base g n cap i l X v k p)(hr:r<base)(hb:base≤w.heap.size)(hX:X.length≤4294967296) :
  Calls Tryz.prog 270 #[.pointer (some ⟨r,0,none⟩),oH s,.int .i64 next] w (qj r base g n cap next l (X++[⟨1,i,s,0,0⟩]) k p w (.tuple #[])):=by
 have h1:=h.kept (aj w (.cells (dX s) 149))
 have hk1:=bM.below (base:=base) (by omega:r≤w.heap.size) (aj w (.cells (dX s) 149))
 have hx:=Box.new w (dX s) 149
 have hp:=fun w1 h1 hb1=>RI r base g n cap i l X v k p 1 s 0 0 next w1 h1 hr hb1 hX
 obtain⟨⟨c0,c1,c2,c3⟩,_⟩:=hx.FY
 have HP:=ah (hp _ h1 (by simp;omega))
 clear hp h h1 hx
 go_enter Tryz.func270,Tryz.ntmps270
 go_wp2_with (go_at_call 301;go_must (refine HP.out.mono ?_;rintro e w3 ⟨rfl,hS3,hK3⟩))
 go_end0
 exact⟨rfl,hS3,hk1.trans hK3⟩
def nP(r base:Nat)(g:Nat×Nat)(n cap i:Nat)(l:List UInt8)(X:List Lx)(k p:Nat)(w:World)(c:Nat)(e:Ending)(w':World):Prop :=
 if kV c=0 then bV w (.bool false) e w' else qj r base g n cap (i+1) l (X++[⟨kV c,i,0,0,0⟩]) k p w (.bool true) e w'
theorem acY(r base:Nat)(g:Nat×Nat)(n cap i:Nat)(l:List UInt8)(X:List Lx)(v:Value)(k p:Nat)(w:World)(h:dK w r base g n cap i l X v k p)(hr:r<base)(hb:base≤w.heap.size)(hX:X.length≤4294967296)(hi:i<l.length) :
  Calls Tryz.prog 274 #[.pointer (some ⟨r,0,none⟩)] w (nP r base g n cap i l X k p w (l[i]).toNat):=by
 obtain⟨hlen,hn63,hbyte⟩:=h.byte
 have hby:=fun u (hu:dK u r base g n cap i l X v k p)=>hu.byte.2.2 i hi
 clear hbyte
 generalize (l[i]).toNat=c at *
 have hi0:(0:Int)≤(i:Int):=by omega
 have hin:(i:Int)<(n:Int):=by omega
 have hw1:IntKind.i64.wrap ((i:Int)+1)=((i+1:Nat):Int):=by rw[IntWalk.i64_in _ (by omega)];omega
 have RJ:=ah hby
 have HF:Hid (∀ u,Later w.drew u→dK u r base g n cap i l X v k p∧bM r base w u∧Below w.heap.size w u):=ah fun u hl=>⟨(h.kept (Below.refl _ _).drew).kept hl,(bM.below (base:=base) (by omega) (Below.refl w.heap.size w).drew).trans (bM.below (by show r≤w.heap.size;omega) hl),(Below.refl _ w).drew.trans (Below.mono hl (Nat.le_refl _))⟩
 have HP:=ah fun kind w1 h1 hb1=>acX r base g n cap i l X v k p kind 0 0 (i+1) w1 h1 hr hb1 hX
 clear hby h hlen
 go_enter Tryz.func274,Tryz.ntmps274
 go_wp2_with fail
 refine aW (R:=Later) 10 (by kernel_rfl) ?_
 refine pl [0,1,2,3,4,5,6,7,8,9] ?_
 repeat
  refine jW ?_ rfl (fun w1 hl=>?_) ?_
  rotate_left
  ·have hS:=(HF.out w1 hl).1;obtain⟨x0,x1,x2,x3,x4⟩:=hS.cells;have c0:=RJ.out w1 hS;go_simp;try with_reducible rfl
  simp only[eA,eB,eC,Act.put,eD,eE,eF]
 refine eX ?_
 refine bC (by kernel_rfl) (fun w1 hl=>?_) _
 obtain⟨hS,hK,hB⟩:=HF.out w1 hl
 obtain⟨x0,x1,x2,x3,x4⟩:=hS.cells
 have hsz:=hK.others.size
 clear hl HF RJ
 by_cases Fa:c=40
 ·have e40:((c:Int)==40)=true:=by rw[Fa];rfl
  have sk:=ah (show kV c=2 by rw[Fa];rfl)
  clear Fa
  go_wp2_with (go_at_call 301;go_must (refine(HP.out 2 _ hS (by omega)).mono ?_;rintro e w3 ⟨rfl,hS3,hK3⟩))
  go_ret
  unfold nP
  rw[if_neg (by rw[sk.out];decide),sk.out]
  exact⟨rfl,hS3,hK.trans hK3⟩
 have e40:((c:Int)==40)=false:=by simp;omega
 by_cases Io:c=41
 ·have e41:((c:Int)==41)=true:=by rw[Io];rfl
  have sk:=ah (show kV c=3 by rw[Io];rfl)
  clear Fa Io
  go_wp2_with (go_at_call 301;go_must (refine(HP.out 3 _ hS (by omega)).mono ?_;rintro e w3 ⟨rfl,hS3,hK3⟩))
  go_ret
  unfold nP
  rw[if_neg (by rw[sk.out];decide),sk.out]
  exact⟨rfl,hS3,hK.trans hK3⟩
 have e41:((c:Int)==41)=false:=by simp;omega
 by_cases Dn:c=124
 ·have ai1:((c:Int)==124)=true:=by rw[Dn];rfl
  have sk:=ah (show kV c=4 by rw[Dn];rfl)
  clear Fa Io Dn
  go_wp2_with (go_at_call 301;go_must (refine(HP.out 4 _ hS (by omega)).mono ?_;rintro e w3 ⟨rfl,hS3,hK3⟩))
  go_ret
  unfold nP
  rw[if_neg (by rw[sk.out];decide),sk.out]
  exact⟨rfl,hS3,hK.trans hK3⟩
 have ai1:((c:Int)==124)=false:=by simp;omega
 by_cases Oo:c=42
 ·have e42:((c:Int)==42)=true:=by rw[Oo];rfl
  have sk:=ah (show kV c=5 by rw[Oo];rfl)
  clear Fa Io Dn Oo
  go_wp2_with (go_at_call 301;go_must (refine(HP.out 5 _ hS (by omega)).mono ?_;rintro e w3 ⟨rfl,hS3,hK3⟩))
  go_ret
  unfold nP
  rw[if_neg (by rw[sk.out];decide),sk.out]
  exact⟨rfl,hS3,hK.trans hK3⟩
 have e42:((c:Int)==42)=false:=by simp;omega
 by_cases RN:c=43
 ·have e43:((c:Int)==43)=true:=by rw[RN];rfl
  have sk:=ah (show kV c=6 by rw[RN];rfl)
  clear Fa Io Dn Oo RN
  go_wp2_with (go_at_call 301;go_must (refine(HP.out 6 _ hS (by omega)).mono ?_;rintro e w3 ⟨rfl,hS3,hK3⟩))
  go_ret
  unfold nP
  rw[if_neg (by rw[sk.out];decide),sk.out]
  exact⟨rfl,hS3,hK.trans hK3⟩
 have e43:((c:Int)==43)=false:=by simp;omega
 by_cases WM:c=63
 ·have e63:((c:Int)==63)=true:=by rw[WM];rfl
  have sk:=ah (show kV c=7 by rw[WM];rfl)
  clear Fa Io Dn Oo RN WM
  go_wp2_with (go_at_call 301;go_must (refine(HP.out 7 _ hS (by omega)).mono ?_;rintro e w3 ⟨rfl,hS3,hK3⟩))
  go_ret
  unfold nP
  rw[if_neg (by rw[sk.out];decide),sk.out]
  exact⟨rfl,hS3,hK.trans hK3⟩
 have e63:((c:Int)==63)=false:=by simp;omega
 have sk:=ah (show kV c=0 by unfold kV;simp only[Fa,Io,Dn,Oo,RN,WM,if_false])
 clear Fa Io Dn Oo RN WM
 go_wp2
 go_ret
 unfold nP
 rw[if_pos sk.out]
 exact⟨rfl,hB⟩
end
section
open Go.RowKit
structure JX(w W:World)(g:Nat×Nat)(n cap i k p:Nat)(l:List UInt8):Prop where
 x0:Box W w.heap.size #[.int .i64 0,.int .i64 0] 88
 rd:oW W (w.heap.size+1) g n cap i 0 k p l
 below:Below w.heap.size w W
theorem JX.kept{w W W':World}{g:Nat×Nat}{n cap i k p:Nat}{l:List UInt8}(h:JX w W g n cap i k p l)(hb:Below W.heap.size W W'):JX w W' g n cap i k p l:=⟨h.x0.kept hb,h.rd.kept hb,h.below.trans (hb.mono h.below.size)⟩
theorem JX.step{w W W':World}{g:Nat×Nat}{n cap i k p i' k' p':Nat}{l:List UInt8}(h:JX w W g n cap i k p l)(hr:oW W' (w.heap.size+1) g n cap i' 0 k' p' l)(ho:Only (w.heap.size+1) W W'):JX w W' g n cap i' k' p' l :=
 ⟨ho.box h.x0 (by omega),hr,h.below.trans (ho.1.mono (by omega))⟩
end
section
open Go.RowKit
theorem dK.late{w:World}{r base b E:Nat}{g:Nat×Nat}{n cap i:Nat}{l:List UInt8}{X:List Lx}{v:Value}{k p:Nat}{c:Array Value}(h:dK w r base g n cap i l X v k p)(hx:Box w b c E)(hrb:r≠b)(hbb:base≤b)(j:Nat)(u:Value)(hE:E≠257:=by decide) :
  dK (w.setCell ⟨b,j,none⟩ u) r base g n cap i l X v k p:=by
 have hlt:=h.lt
 exact⟨h.box.other _ _ hrb,(aJ.set (X:=(·=b)) w ⟨b,j,none⟩ u rfl).slice h.sl (fun _ ad e=>by cases e;show ¬ g.1=b;omega),h.out.xC hx (Ne.symm hE) _ _,h.ne,h.lt⟩
theorem bM.late{r base b i:Nat}(w:World)(hb:base≤b)(hr:r≤b)(u:Value):bM r base w (w.setCell ⟨b,i,none⟩ u):=⟨(Below.refl r _).setCell (by show r≤b;exact hr) _,aJ.set _ _ _ (.inr hb),KeepsOthers.setCell _ _ _⟩
end
section
open Go.RowKit
structure Zy(W:World)(r base:Nat)(g:Nat×Nat)(n cap i:Nat)(l:List UInt8)(X:List Lx)(v:Value)(k p ps pi E1 j:Nat):Prop where
 sp:dK W r base g n cap i l X v k p
 bs:Box W ps #[.pointer (some ⟨r,0,none⟩)] E1
 bi:Box W pi #[.int .i64 j] 3
 ne:ps≠pi
 ls:base≤ps
 li:base≤pi
 lr:r<base
theorem Zy.kept{W W':World}{r base:Nat}{g:Nat×Nat}{n cap i:Nat}{l:List UInt8}{X:List Lx}{v:Value}{k p ps pi E1 j:Nat}(h:Zy W r base g n cap i l X v k p ps pi E1 j)(hb:Below W.heap.size W W'):Zy W' r base g n cap i l X v k p ps pi E1 j :=
 ⟨h.sp.kept hb,h.bs.kept hb,h.bi.kept hb,h.ne,h.ls,h.li,h.lr⟩
end
section
open Go.RowKit
def jJ(r base:Nat)(g:Nat×Nat)(n cap i:Nat)(l:List UInt8)(X:List Lx)(k p:Nat)(w:World)(ans:Sum (Nat×Nat) (Lx×Nat))(e:Ending)(w':World):Prop :=
 match ans with
 | .inl q=>qj r base g n cap i l X q.1 q.2 w (.tuple #[]) e w'
 | .inr q=>qj r base g n cap q.2 l (X++[q.1]) k p w (.tuple #[]) e w'
end
section
open Go.RowKit
theorem jJ.ret{r base:Nat}{g:Nat×Nat}{n cap i:Nat}{l:List UInt8}{X:List Lx}{k p:Nat}{w w':World}{ans:Sum (Nat×Nat) (Lx×Nat)}{e:Ending}(h:jJ r base g n cap i l X k p w ans e w'):e=.returned (.tuple #[]):=by
 cases ans with
 | inl q=>exact h.1
 | inr q=>exact h.1
theorem jJ.over{r base:Nat}{g:Nat×Nat}{n cap i:Nat}{l:List UInt8}{X:List Lx}{k p:Nat}{w w1 w':World}{ans:Sum (Nat×Nat) (Lx×Nat)}{e:Ending}(ho:bM r base w w1)(h:jJ r base g n cap i l X k p w1 ans e w'):jJ r base g n cap i l X k p w ans e w':=by
 cases ans with
 | inl q=>exact qj.over ho h
 | inr q=>exact qj.over ho h
theorem acZ(r base:Nat)(g:Nat×Nat)(n cap i:Nat)(l:List UInt8)(X:List Lx)(v:Value)(k p:Nat)(ps E1:Nat)(w:World)(h:dK w r base g n cap i l X v k p)(hr:r<base)(hps:Box w ps #[.pointer (some ⟨r,0,none⟩)] E1) :
  Calls Tryz.prog 272 #[.pointer (some ⟨ps,0,none⟩)] w (jJ r base g n cap i l X k p w (.inl (3,i))):=by
 have y0:=hps.cell 0
 have hf:=acW r base g n cap i l X v k p 3 w h hr
 have HF:=ah hf
 clear hf h hps
 go_enter Tryz.func272,Tryz.ntmps272
 go_wp2_with fail
 refine HF.out.mono ?_
 rintro e uf ⟨rfl,hS,hKf⟩
 go_wp2
 go_end0
 exact⟨rfl,hS,hKf⟩
theorem WO(r base:Nat)(g:Nat×Nat)(n cap i:Nat)(l:List UInt8)(X:List Lx)(v:Value)(k p:Nat)(ps pc E1 x:Nat)(w:World)(h:dK w r base g n cap i l X v k p)(hr:r<base)(hb:base≤w.heap.size)(hps:Box w ps #[.pointer (some ⟨r,0,none⟩)] E1)(hpc:Box w pc #[.int .u8 x] 5)(hx:x<256)(hi:i<n)(hX:X.length≤4294967296) :
  Calls Tryz.prog 275 #[.pointer (some ⟨ps,0,none⟩),.pointer (some ⟨pc,0,none⟩)] w (jJ r base g n cap i l X k p w (.inr (⟨1,i,qW [x],0,0⟩,i+1))):=by
 have hn63:=h.byte.2.1
 have hw1:IntKind.i64.wrap ((i:Int)+1)=((i+1:Nat):Int):=by rw[IntWalk.i64_in _ (by omega)];omega
 have hset:=fun u hu hbu=>aea r base g n cap i l X v k p (qW [x]) (i+1) u hu hr hbu hX
 have hof:=fun b w1 h=>Rx (some ⟨b,0,none⟩) 1 [x] w1 h (by simpa using hx)
 have Oq:=ah hset
 have EY:=ah hof
 have HF:Hid (∀ u,Later w.drew u→dK u r base g n cap i l X v k p∧Box u ps #[.pointer (some ⟨r,0,none⟩)] E1∧Box u pc #[.int .u8 x] 5∧bM r base w u):=ah fun u hl=>⟨(h.kept (Below.refl _ _).drew).kept hl,hps.drew.kept hl,hpc.drew.kept hl,(bM.below (base:=base) (by omega) (Below.refl w.heap.size w).drew).trans (bM.below (by show r≤w.heap.size;omega) hl)⟩
 clear hset hof h hps hpc
 generalize qW [x]=d at *
 go_enter Tryz.func275,Tryz.ntmps275
 go_wp2_with fail
 refine aW (R:=Later) 9 (by kernel_rfl) ?_
 refine pl [0,1,4,5,6,7,8] ?_
 repeat
  refine jW ?_ rfl (fun w1 hl=>?_) ?_
  rotate_left
  ·obtain⟨hS,hp,hc,_⟩:=HF.out w1 hl;have y0:=hp.cell 0;have y1:=hc.cell 0;obtain⟨x0,x1,x2,x3,x4⟩:=hS.cells;go_simp;try with_reducible rfl
  simp only[eA,eB,eC,Act.put,eD,eE,eF]
 refine eX ?_
 refine aQ (t:=9) (i:=2) (by kernel_rfl) rfl (fun w1 hl K hK=>?_)
 go_simp
 refine hK.out _ _ (fun _=>aj _ _) ?_
 have hsl:=Np w1 x 5
 have hlA:Later _ (w1.alloc (.cells #[.int .u8 x] 5)):=Later.trans _ _ _ hl (aj _ _)
 clear hK K hl
 generalize w1.alloc (.cells #[.int .u8 x] 5)=w5 at *
 have HSL:Hid (∀ u,Later w5 u→ak u (.slice (some ⟨w1.heap.size,0,none⟩) 1 1) 1 gX [x]):=ah fun u hl=>hsl.kept hl
 refine clM 3 ?_ ?_ ?_ rfl (fun w1=>?_) (fun w1 hl=>?_) ?_
 rotate_left 4
 ·exact EY.out _ w1 (HSL.out w1 hl)
 rotate_left
 ·go_simp
 simp only[eA,eB,eC,Act.put,eD,eE,eF]
 refine aQ (t:=9) (i:=9) (by kernel_rfl) rfl (fun w1 hl K hK=>?_)
 obtain⟨hS,_,_,hK2⟩:=HF.out w1 (Later.trans _ _ _ hlA hl)
 have hsz:=hK2.others.size
 go_simp
 refine(Oq.out _ hS (by omega)).mono ?_
 rintro e w2 ⟨rfl,hS3,hK3⟩
 refine hK.out _ _ (fun h=>absurd rfl h) ?_
 clear hK K hl HF hS
 obtain⟨a,c,hS3⟩:=hS3
 have wH:=hK2.trans hK3
 refine bC (by kernel_rfl) (fun w1 hl=>?_) _
 have hS4:=hS3.kept hl
 go_wp2
 go_end0
 exact⟨rfl,⟨a,c,hS4⟩,wH.trans (bM.below (by have:=hS3.box.lt;omega) hl)⟩
def Uf(r base:Nat)(g:Nat×Nat)(n cap i:Nat)(l:List UInt8)(X:List Lx)(k p:Nat)(c:Nat)(A:Sum (Nat×Nat) (Lx×Nat))(u:World)(ps pc:Nat):Prop :=
 if c=92 then Calls Tryz.prog 266 #[.pointer (some ⟨r,0,none⟩)] u (jJ r base g n cap i l X k p u A)
 else if c=91 then Calls Tryz.prog 267 #[.pointer (some ⟨r,0,none⟩)] u (jJ r base g n cap i l X k p u A)
 else if c=123 then Calls Tryz.prog 268 #[.pointer (some ⟨r,0,none⟩)] u (jJ r base g n cap i l X k p u A)
 else if c=46 then Calls Tryz.prog 269 #[.pointer (some ⟨ps,0,none⟩)] u (jJ r base g n cap i l X k p u A)
 else if c=93∨c=125∨c=10 then Calls Tryz.prog 272 #[.pointer (some ⟨ps,0,none⟩)] u (jJ r base g n cap i l X k p u A)
 else Calls Tryz.prog 274 #[.pointer (some ⟨r,0,none⟩)] u (fun e u'=>e=.returned (.bool true)∧jJ r base g n cap i l X k p u A (.returned (.tuple #[])) u') ∨
  (Calls Tryz.prog 274 #[.pointer (some ⟨r,0,none⟩)] u (bV u (.bool false))∧∀ u1,Below u.heap.size u u1→Calls Tryz.prog 275 #[.pointer (some ⟨ps,0,none⟩),.pointer (some ⟨pc,0,none⟩)] u1 (jJ r base g n cap i l X k p u1 A))
theorem WQ(r base:Nat)(g:Nat×Nat)(n cap i:Nat)(l:List UInt8)(X:List Lx)(v:Value)(k p:Nat)(A:Sum (Nat×Nat) (Lx×Nat))(w:World)(h:dK w r base g n cap i l X v k p)(hr:r<base)(hb:base≤w.heap.size)(hi:i<l.length)
  (HM:Hid (∀ u,dK u r base g n cap i l X v k p→base≤u.heap.size→∀ ps pc,Box u ps #[.pointer (some ⟨r,0,none⟩)] 340→Box u pc #[.int .u8 (l[i]).toNat] 5→Uf r base g n cap i l X k p (l[i]).toNat A u ps pc)) :
  Calls Tryz.prog 220 #[.pointer (some ⟨r,0,none⟩)] w (jJ r base g n cap i l X k p w A):=by
 have hlen:=h.byte.1
 have hn63:=h.byte.2.1
 have hby:=fun u (hu:dK u r base g n cap i l X v k p)=>hu.byte.2.2 i hi
 have hin2:i<n:=by omega
 generalize (l[i]).toNat=c at *
 have hi0:(0:Int)≤(i:Int):=by omega
 have hin:(i:Int)<(n:Int):=by omega
 have RJ:=ah hby
 have h1:=h.kept (aj w (.cells #[.pointer (some ⟨r,0,none⟩)] 340))
 have hp1:=Box.new w #[.pointer (some ⟨r,0,none⟩)] 340
 have hk1:=bM.below (base:=base) (by omega:r≤w.heap.size) (aj w (.cells #[.pointer (some ⟨r,0,none⟩)] 340))
 have y0:=hp1.cell 0
 generalize hps:w.heap.size=ps at *
 clear hby h hi hlen
 go_enter Tryz.func220,Tryz.ntmps220
 go_wp2_with fail
 generalize (w.alloc (.cells #[.pointer (some ⟨r,0,none⟩)] 340))=W0 at *
 have HF:Hid (∀ u,Later W0.drew u→dK u r base g n cap i l X v k p∧Box u ps #[.pointer (some ⟨r,0,none⟩)] 340∧bM r base w u):=ah fun u hl=>⟨(h1.kept (Below.refl _ _).drew).kept hl,hp1.drew.kept hl,hk1.trans ((bM.below (base:=base) (by have:=h1.box.lt;omega) (Below.refl W0.heap.size W0).drew).trans (bM.below (by show r≤W0.heap.size;have:=h1.box.lt;omega) hl))⟩
 clear h1 hp1 hk1
 refine aW (R:=Later) 11 (by kernel_rfl) ?_
 refine pl [0,1,2,3,4,5,6,7,8,9] ?_
 repeat
  refine jW ?_ rfl (fun w1 hl=>?_) ?_
  rotate_left
  ·obtain⟨hS,hp,_⟩:=HF.out w1 hl;have y0:=hp.cell 0;obtain⟨x0,x1,x2,x3,x4⟩:=hS.cells;have c0:=RJ.out w1 hS;go_simp;try with_reducible rfl
  simp only[eA,eB,eC,Act.put,eD,eE,eF]
 refine eX ?_
 refine aQ (t:=11) (i:=10) (by kernel_rfl) rfl (fun w1 hl K hK=>?_)
 obtain⟨hS,hp,hK2⟩:=HF.out w1 hl
 have hsz:=hK2.others.size
 have hpl:=hp.lt
 clear hl HF
 go_simp
 refine hK.out _ _ (fun _=>aj _ _) ?_
 clear hK K
 have hpc:=Box.new w1 #[.int .u8 0] 5
 have hS1:=hS.kept (aj w1 (.cells #[.int .u8 0] 5))
 have hp1:=hp.kept (aj w1 (.cells #[.int .u8 0] 5))
 have hK1:=hK2.trans (bM.below (base:=base) (by omega) (aj w1 (.cells #[.int .u8 0] 5)))
 have hrb:r≠w1.heap.size:=by omega
 have hbb:base≤w1.heap.size:=by omega
 have Gt:ps≠w1.heap.size:=by omega
 clear hS hK2 hp hpl hsz
 generalize hbq:w1.heap.size=pc at *
 clear hbq
 refine aQ (t:=11) (i:=11) (by kernel_rfl) rfl (fun w1 hl K hK=>?_)
 have Ot:=hpc.kept hl
 have hS2:=hS1.kept hl
 have hp2:=hp1.kept hl
 have hK2:=hK1.trans (bM.below (base:=base) (by have:=hS1.box.lt;omega) hl)
 have r0:=Ot.cell 0
 have s0:=Ot.free 0
 clear hpc hS1 hp1 hK1 hl
 go_simp
 refine hK.out _ _ (fun h=>absurd rfl h) ?_
 clear hK K r0 s0
 have aeb:Box _ pc #[.int .u8 c] 5:=Ot.set 0 (.int .u8 c)
 have hS3:=hS2.late Ot hrb hbb 0 (.int .u8 c)
 have hp3:=hp2.other ⟨pc,0,none⟩ (.int .u8 c) Gt
 have hK3:=hK2.trans (bM.late (r:=r) (base:=base) w1 (i:=0) hbb (by omega) (.int .u8 c))
 clear Ot hS2 hp2 hK2
 refine bC (by kernel_rfl) (fun w1 hl=>?_) _
 have Ug:=aeb.kept hl
 have hS4:=hS3.kept hl
 have Dp:=hp3.kept hl
 have hK4:=hK3.trans (bM.below (base:=base) (by have:=hS3.box.lt;omega) hl)
 clear aeb hS3 hp3 hK3 hl
 have Bl:=hK4.others.size
 have y0:=Dp.cell 0
 have y1:=Ug.cell 0
 have hm:=HM.out _ hS4 (by omega) _ _ Dp Ug
 clear HM
 unfold Uf at hm
 by_cases WR:c=92
 ·rw[if_pos WR] at hm
  have e92:((c:Int)==92)=true:=by rw[WR];rfl
  clear WR
  go_wp2_with fail
  refine hm.mono ?_
  intro e uf hf
  obtain rfl:=hf.ret
  go_wp2
  go_end0
  exact hf.over hK4
 have e92:((c:Int)==92)=false:=by simp;omega
 rw[if_neg WR] at hm
 clear WR
 by_cases WS:c=91
 ·rw[if_pos WS] at hm
  have e91:((c:Int)==91)=true:=by rw[WS];rfl
  clear WS
  go_wp2_with fail
  refine hm.mono ?_
  intro e uf hf
  obtain rfl:=hf.ret
  go_wp2
  go_end0
  exact hf.over hK4
 have e91:((c:Int)==91)=false:=by simp;omega
 rw[if_neg WS] at hm
 clear WS
 by_cases Ou:c=123
 ·rw[if_pos Ou] at hm
  have ai2:((c:Int)==123)=true:=by rw[Ou];rfl
  clear Ou
  go_wp2_with fail
  refine hm.mono ?_
  intro e uf hf
  obtain rfl:=hf.ret
  go_wp2
  go_end0
  exact hf.over hK4
 have ai2:((c:Int)==123)=false:=by simp;omega
 rw[if_neg Ou] at hm
 clear Ou
 by_cases WT:c=46
 ·rw[if_pos WT] at hm
  have e46:((c:Int)==46)=true:=by rw[WT];rfl
  clear WT
  go_wp2_with fail
  refine hm.mono ?_
  intro e uf hf
  obtain rfl:=hf.ret
  go_wp2
  go_end0
  exact hf.over hK4
 have e46:((c:Int)==46)=false:=by simp;omega
 rw[if_neg WT] at hm
 clear WT
 by_cases RP:c=93
 ·rw[if_pos (.inl RP)] at hm
  have e93:((c:Int)==93)=true:=by rw[RP];rfl
  clear RP
  go_wp2_with fail
  refine hm.mono ?_
  intro e uf hf
  obtain rfl:=hf.ret
  go_wp2
  go_end0
  exact hf.over hK4
 have e93:((c:Int)==93)=false:=by simp;omega
 by_cases Ov:c=125
 ·rw[if_pos (.inr (.inl Ov))] at hm
  have e125:((c:Int)==125)=true:=by rw[Ov];rfl
  clear RP Ov
  go_wp2_with fail
  refine hm.mono ?_
  intro e uf hf
  obtain rfl:=hf.ret
  go_wp2
  go_end0
  exact hf.over hK4
 have e125:((c:Int)==125)=false:=by simp;omega
 by_cases q10:c=10
 ·rw[if_pos (.inr (.inr q10))] at hm
  have e10:((c:Int)==10)=true:=by rw[q10];rfl
  clear RP Ov q10
  go_wp2_with fail
  refine hm.mono ?_
  intro e uf hf
  obtain rfl:=hf.ret
  go_wp2
  go_end0
  exact hf.over hK4
 have e10:((c:Int)==10)=false:=by simp;omega
 rw[if_neg (by omega)] at hm
 clear RP Ov q10
 rcases hm with hm | ⟨hs,hm⟩
 ·go_wp2_with fail
  refine hm.mono ?_
  rintro e uf ⟨rfl,hf⟩
  go_wp2
  go_end0
  exact hf.over hK4
 go_wp2_with fail
 refine hs.mono ?_
 rintro e u5 ⟨rfl,dw⟩
 have hf:=hm _ dw
 clear hm hs
 have hp5:=Dp.kept dw
 have ai3:=Ug.kept dw
 have hK6:=hK4.trans (bM.below (base:=base) (by have:=hS4.box.lt;omega) dw)
 have z0:=hp5.cell 0
 have z1:=ai3.cell 0
 clear y0 y1 hS4 Dp Ug
 go_wp2_with fail
 refine hf.mono ?_
 intro e uf hf
 obtain rfl:=hf.ret
 go_wp2
 go_end0
 exact hf.over hK6
end
section
open Go.RowKit
theorem WU{l:List UInt8}{i j:Nat}{x:Lx}(hi:i<l.length)(h:kW l i=.inr (x,j)):i<j:=by
 unfold kW at h
 dsimp only at h
 split at h
 ·cases h
 split at h
 ·cases h
 split at h
 ·cases h;omega
 ·cases h;omega
theorem KT{l:List UInt8}{i kd ps:Nat}(h:kW l i=.inl (kd,ps)):kd≠0:=by
 unfold kW at h
 dsimp only at h
 split at h
 ·cases h;decide
 split at h
 ·cases h;decide
 split at h
 ·cases h
 ·cases h
theorem ac0(r base:Nat)(g:Nat×Nat)(n cap i:Nat)(l:List UInt8)(X:List Lx)(v:Value)(k p:Nat)(w:World)(h:dK w r base g n cap i l X v k p)(hr:r<base)(hb:base≤w.heap.size)(hi:i<l.length)(hX:X.length≤4294967296)(hS:E8 l) :
  Calls Tryz.prog 220 #[.pointer (some ⟨r,0,none⟩)] w (jJ r base g n cap i l X k p w (kW l i)):=by
 have hgd:l.getD i 0=l[i]:=by simp[List.getD_eq_getElem?_getD,hi]
 have hin:i<n:=by have:=h.byte.1;omega
 refine WQ r base g n cap i l X v k p _ w h hr hb hi (ah fun u hu hbu ps pc hp hpc=>?_)
 unfold Uf kW
 rw[hgd]
 dsimp only
 have ho:=hS _ (List.getElem_mem hi)
 rw[if_neg ho.1,if_neg ho.2.1,if_neg ho.2.2.1,if_neg ho.2.2.2,if_neg (by omega:¬ ((l[i]).toNat=92∨(l[i]).toNat=91∨(l[i]).toNat=123∨(l[i]).toNat=46))]
 by_cases c5:(l[i]).toNat=93∨(l[i]).toNat=125∨(l[i]).toNat=10
 ·rw[if_pos c5,if_pos c5];exact acZ r base g n cap i l X v k p ps _ u hu hr hp
 rw[if_neg c5,if_neg c5]
 have hs:=acY r base g n cap i l X v k p u hu hr hbu hX hi
 by_cases c6:kV (l[i]).toNat=0
 ·rw[if_pos c6]
  exact .inr ⟨hs.mono fun e u' h=>by unfold nP at h;rwa[if_pos c6] at h,fun u1 hB=>WO r base g n cap i l X v k p ps pc _ _ u1 (hu.kept hB) hr (by have:=hB.size;omega) (hp.kept hB) (hpc.kept hB) (l[i]).toNat_lt hin hX⟩
 ·rw[if_neg c6]
  exact .inl (hs.mono fun e u' h=>by
   unfold nP at h
   rw[if_neg c6] at h
   exact⟨h.1,rfl,h.2⟩)
end
section
open Go.RowKit
theorem iR{P:Program}{fn:Func}{R:Ending→World→Prop}{a:Act}{w:World}{p q:Tmp}{Ip b2 E2:Nat}{cs2:Array Value}{d2:TypeDesc}{v1:Value}
  (hr:fn.results=#[.tmp p,.cell q Ip]) (hp:a.tmps.getD p undef=v1) (hq:a.tmps.getD q undef=.pointer (some ⟨b2,0,none⟩)) (hb2:Box w b2 cs2 E2)
  (hu2:P.underlying Ip=some d2) (hd2:(match d2 with | .struct _ | .array _ _=>true | _=>false)=true) (hi2:(P.info? Ip).map (·.size)=some cs2.size)
  (hdf:a.defers=[]) (hR:R (.returned (.tuple #[v1,.agg cs2])) w):bodyPost P fn R .ret a w :=
 ⟨hdf,_,by
  have hp':a.tmps[p]?.getD undef=v1:=by simpa using hp
  have hq':a.tmps[q]?.getD undef=.pointer (some ⟨b2,0,none⟩):=by simpa using hq
  simp[results,hr,hp',hq',asAddr,run_loadVar_row w b2 E2 Ip cs2 (0,0) d2 hb2 hu2 hd2 hi2],hR⟩
def Zz(w:World)(l:List UInt8)(e:Ending)(w':World):Prop :=
 Below w.heap.size w w'∧match jh l with
  | .inl q=>e=.returned (.tuple #[.slice none 0 0,fG q.1 q.2])
  | .inr X=>∃ a c,e=.returned (.tuple #[.slice a X.length c,fG 0 0])∧Own w' w.heap.size 257 8 fE (.slice a X.length c) X
def measS(r n:Nat)(W:World):Nat:=match W.cell? ⟨r,1,none⟩ with
 | some (.int _ i)=>n - i.toNat
 | _=>0
theorem Ox{W:World}{r base:Nat}{g:Nat×Nat}{n cap i:Nat}{l:List UInt8}{X:List Lx}{v:Value}{k p:Nat}(h:dK W r base g n cap i l X v k p):measS r n W=n - i:=by
 unfold measS
 rw[h.cells.2.1]
 simp
def WV(w:World)(g:Nat×Nat)(n cap:Nat)(l:List UInt8)(ANS:Sum (Nat×Nat) (List Lx))(W:World):Prop :=
 ∃ (i f:Nat) (X:List Lx) (a:Option Addr) (c:Nat),dK W (w.heap.size+1) (w.heap.size+1+1) g n cap i l X (.slice a X.length c) 0 0∧Box W w.heap.size #[.int .i64 0,.int .i64 0] 88∧Below w.heap.size w W∧lexFrom l f i X=ANS∧l.length<f+i∧X.length≤i
theorem WW(g:Nat×Nat)(n cap:Nat)(l:List UInt8)(w:World)(h:ak w (.slice (some ⟨g.1,g.2,none⟩) n cap) 1 bT l)(hg:g.1<w.heap.size)(hS:E8 l) :
  Calls Tryz.prog 175 #[.slice (some ⟨g.1,g.2,none⟩) n cap] w (Zz w l):=by
 have hlen:=h.cellsA.1
 have yO:=ah hS
 clear hS
 have hx0:=Box.new w #[.int .i64 0,.int .i64 0] 88
 by_cases hbig:65536<n
 ·have e1:decide (65536<(n:Int))=true:=by simp;omega
  have hans:jh l=.inl (4,65536):=by unfold jh;rw[if_pos (by omega)]
  have HA:=ah hans
  have c0:=hx0.cell 0
  have c1:=hx0.cell 1
  have f0:=hx0.free 0
  have f1:=hx0.free 1
  clear h hg hans hlen
  go_enter Tryz.func175,Tryz.ntmps175
  go_wp2
  refine iR Tryz.results175 rfl rfl (cs2:=#[.int .i64 4,.int .i64 65536]) (E2:=88) ?_ Tryz.underlying88 rfl (by kernel_rfl) rfl ⟨?_,by rw[HA.out];rfl⟩
  ·first | exact(hx0.set 0 (.int .i64 4)).set 1 (.int .i64 65536) | exact Box.new _ _ _
  ·go_grown
 ·have e1:decide (65536<(n:Int))=false:=by simp;omega
  have hans:jh l=lexFrom l (l.length+1) 0 []:=by unfold jh;rw[if_neg (by omega)]
  obtain⟨ANS,hA⟩:∃ ANS,lexFrom l (l.length+1) 0 []=ANS:=⟨_,rfl⟩
  have hb0:Below w.heap.size w ((w.alloc (.cells #[.int .i64 0,.int .i64 0] 88)).alloc (.cells (spC g n cap 0 (.slice none 0 0) 0 0) 305)):=((Below.refl _ w).alloc (Nat.le_refl _) _).alloc (by simp) _
  have Ah:WV w g n cap l ANS ((w.alloc (.cells #[.int .i64 0,.int .i64 0] 88)).alloc (.cells (spC g n cap 0 (.slice none 0 0) 0 0) 305)) :=
   ⟨0,l.length+1,[],none,0,⟨Box.new' (by simp) _ _,h.kept hb0,Own.nil _ _ _ _ _,by omega,by omega⟩,hx0.alloc _,hb0,hA,by omega,Nat.le_refl _⟩
  rw[hA] at hans
  have HA:=ah hans
  unfold spC at Ah
  have HL:=ah hlen
  clear hans hA h hx0 hb0 hlen
  go_enter Tryz.func175,Tryz.ntmps175
  go_wp2
  go_loopw [] (fun wr=>WV w g n cap l ANS wr) (fun wr=>measS (w.heap.size+1) n wr)
  case atStart=>exact Ah
  case round =>
   clear Ah
   obtain⟨i,f,X,a,c,hS,hX0,hB,hlf,hfu,hXl⟩:=hrel
   obtain⟨x0,x1,x2,x3,x4⟩:=hS.cells
   have hsz:=hS.box.lt
   by_cases hlt:i<n
   ·have hil:i<l.length:=by rw[←HL.out];exact hlt
    have aec:=HL.out
    have hdi:decide ((i:Int)<(n:Int))=true:=decide_eq_true (by omega)
    have hnx:=ac0 (w.heap.size+1) (w.heap.size+1+1) g n cap i l X _ 0 0 wr hS (by omega) (by omega) hil (by omega) yO.out
    have hup:=fun x j=>@WU l i j x hil
    have hne:=fun kd ps=>@KT l i kd ps
    obtain⟨f,rfl⟩:∃ f',f=f'+1:=⟨f - 1,by omega⟩
    rw[lexFrom,if_pos hil] at hlf
    have hm0:=Ox hS
    cases hlx:kW l i with
    | inl q =>
     rw[hlx] at hnx hlf
     dsimp only at hlf
     subst hlf
     have hq:=hne q.1 q.2 hlx
     have ek:((q.1:Int) != 0)=true:=by simp;omega
     have HN:=ah hnx
     clear hnx hup hne hq aec hm0
     go_wp2_with fail
     refine HN.out.mono ?_
     rintro e w2 ⟨rfl,⟨a2,c2,hS2⟩,hK2⟩
     obtain⟨y0,y1,y2,y3,y4⟩:=hS2.cells
     have hX2:Box w2 w.heap.size #[.int .i64 0,.int .i64 0] 88:=hK2.cells.box (by show ¬ (_∨_);omega) hX0
     have hB2:Below w.heap.size w w2:=hB.trans (hK2.low.mono (by omega))
     go_wp2_with fail
     have HF:Hid (∀ u,Later w2.drew u→dK u (w.heap.size+1) (w.heap.size+1+1) g n cap i l X (.slice a2 X.length c2) q.1 q.2∧Box u w.heap.size #[.int .i64 0,.int .i64 0] 88∧Below w.heap.size w u):=ah fun u hl=>⟨(hS2.kept (Below.refl _ _).drew).kept hl,hX2.drew.kept hl,(hB2.trans ((Below.refl _ w2).drew.mono hB2.size)).trans (hl.mono hB2.size)⟩
     clear y0 y1 y2 y3 y4 x0 x1 x2 x3 x4 hS2 hX2 hB2 hK2 hS hX0 hB
     refine aW (R:=Later) 3 (by kernel_rfl) ?_
     refine pl [0,1,2] ?_
     repeat
      refine jW ?_ rfl (fun w1 hl=>?_) ?_
      rotate_left
      ·obtain⟨x0,x1,x2,x3,x4⟩:=(HF.out w1 hl).1.cells;go_simp;try with_reducible rfl
      simp only[eA,eB,eC,Act.put,eD,eE,eF]
     refine eX ?_
     refine aQ (t:=3) (i:=3) (by kernel_rfl) rfl (fun w1 hl K hK=>?_)
     obtain⟨_,dV,hB3⟩:=HF.out w1 hl
     have r0:=dV.cell 0
     have r1:=dV.cell 1
     have s0:=dV.free 0
     have s1:=dV.free 1
     go_simp
     refine hK.out _ _ (fun h=>absurd rfl h) ?_
     clear hK K r0 r1 s0 s1
     have fU:=(dV.set 0 (.int .i64 q.1)).set 1 (.int .i64 q.2)
     have hB4:=(hB3.setCell (p:=⟨w.heap.size,0,none⟩) (by simp) (.int .i64 q.1)).setCell (p:=⟨w.heap.size,1,none⟩) (by simp) (.int .i64 q.2)
     clear dV hB3 HF hl
     refine bC (by kernel_rfl) (fun w1 hl=>?_) _
     have Ai:=fU.kept hl
     have dw:=hB4.trans (hl.mono hB4.size)
     go_wp2
     exact iR Tryz.results175 rfl rfl Ai Tryz.underlying88 rfl (by kernel_rfl) rfl ⟨dw,by rw[HA.out];rfl⟩
    | inr q =>
     rw[hlx] at hnx hlf
     dsimp only at hlf
     have hq:=hup q.1 q.2 hlx
     have HN:=ah hnx
     clear hnx hup hne aec
     go_wp2_with fail
     refine HN.out.mono ?_
     rintro e w2 ⟨rfl,⟨a2,c2,hS2⟩,hK2⟩
     obtain⟨y0,y1,y2,y3,y4⟩:=hS2.cells
     have hX2:Box w2 w.heap.size #[.int .i64 0,.int .i64 0] 88:=hK2.cells.box (by show ¬ (_∨_);omega) hX0
     have hB2:Below w.heap.size w w2:=hB.trans (hK2.low.mono (by omega))
     have hm2:=Ox hS2
     go_wp2
     go_roundw
     case rel =>
      exact⟨q.2,f,X++[q.1],a2,c2,hS2,hX2,hB2,hlf,by omega,by rw[List.length_append,List.length_singleton];omega⟩
     case measure=>rw[hm0,hm2];omega
   ·have hdi:decide ((i:Int)<(n:Int))=false:=decide_eq_false (by omega)
    have fC:ANS=.inr X:=by
     rw[←hlf]
     cases f with
     | zero=>rfl
     | succ f=>rw[lexFrom,if_neg (by rw[←HL.out];exact hlt)]
    subst fC
    have c0:=hX0.cell 0
    have c1:=hX0.cell 1
    have f0:=hX0.free 0
    have f1:=hX0.free 1
    have HS:=ah hS
    clear hlf hS
    go_wp2
    have dV:=(hX0.set 0 (.int .i64 0)).set 1 (.int .i64 0)
    exact iR Tryz.results175 rfl rfl dV Tryz.underlying88 rfl (by kernel_rfl) rfl ⟨(hB.setCell (by simp) _).setCell (by simp) _,by rw[HA.out];exact⟨a,c,rfl,((HS.out.out.mono (by omega)).xC hX0 (by decide) 0 _).xC (hX0.set 0 _) (by decide) 1 _⟩⟩
end
section
open Go.RowKit
def oC(k:Int)(a:Option Addr)(cap:Nat):List Vt→Vt
 | [x]=>x
 | l=>.mk k 0 a cap l 0 0
theorem Oy(k:Int)(a:Option Addr)(cap:Nat)(l:List Vt):(oC k a cap l).tr=yN k (l.map Vt.tr):=by
 match l with
 | []=>exact Vt.jd _ _ _ _ _ _ _
 | [x]=>rfl
 | x::y::r=>exact Vt.jd _ _ _ _ _ _ _
theorem Iq(k:Int)(l:List Vt)(a:Option Addr)(cap:Nat)(w:World)(sA:ak w (.slice a l.length cap) 8 Vt.cells l) :
  Calls Tryz.prog 280 #[.int .i64 k,.slice a l.length cap] w (fun e w'=>e=.returned (.agg (oC k a cap l).cells.toArray)∧Below w.heap.size w w'):=by
 by_cases h1:l.length=1
 ·obtain⟨V,rfl⟩:∃ V,l=[V]:=by
   match l,h1 with
   | [V],_=>exact⟨V,rfl⟩
  obtain⟨b,o,c1,c2,c3,c4,c5⟩:=sA.kids
  obtain rfl:=c3 0 (by simp)
  have bB:Below w.heap.size w (w.alloc (.cells aX 151)):=by go_grown
  have e1:=c5 0 (by simp) _ bB
  simp only[List.length_singleton]
  have hbl:=c4 (by simp)
  clear sA c3 c4 c5 h1
  simp only[List.getElem_cons_zero] at e1
  obtain⟨k1,s1,a1,yK,wG,lo1,hi1⟩:=V
  obtain⟨y0,y1,y2,y3,y4,y5,y6,y7⟩:=oO e1
  simp only[Nat.zero_mul,Nat.add_zero] at y0 y1 y2 y3 y4 y5 y6 y7
  clear e1
  go_enter Tryz.func280,Tryz.ntmps280
  go_wp2
  exact eU Tryz.results280 rfl (cs:=(aA k1 s1 a1 wG.length yK lo1 hi1).toArray) (Box.new _ _ _) Tryz.underlying151 rfl (by kernel_rfl) rfl ⟨rfl,by go_grown⟩
 ·have g1:(((l.length:Nat):Int)==1)=false:=by rw[beq_eq_false_iff_ne];omega
  have hf:oC k a cap l=.mk k 0 a cap l 0 0:=by
   match l,h1 with
   | [],_=>rfl
   | _::_::_,_=>rfl
  have hz:(Vt.mk k 0 a cap l 0 0).cells=[.int .i64 k,.int .u64 0,.int .u64 0,.int .u64 0,.int .u64 0,.slice a l.length cap,.int .i64 0,.int .i64 0]:=by
   show aA k 0 a l.length cap 0 0=_
   simp only[aA,oI];rfl
  rw[hf,hz]
  clear sA hf hz h1
  generalize l.length=n at *
  go_enter Tryz.func280,Tryz.ntmps280
  go_wp2
  exact eU Tryz.results280 rfl (cs:=#[.int .i64 k,.int .u64 0,.int .u64 0,.int .u64 0,.int .u64 0,.slice a n cap,.int .i64 0,.int .i64 0]) (Box.new _ _ _) Tryz.underlying151 rfl (by kernel_rfl) rfl ⟨rfl,by go_grown⟩
end
section
open Go.RowKit
def nR(x:Lx):Prop:=(x.kind=1∧x.lo=0∧x.hi=0)∨(2≤x.kind∧x.kind<8∧x.set=0∧x.lo=0∧x.hi=0)∨(x.kind=8∧x.set=0∧0≤x.lo∧x.lo≤1000∧(x.hi=-1∨x.lo≤x.hi∧x.hi≤1000))
structure aH(r:Nat)(ov:Value)(w w':World):Prop where
 low:Below r w w'
 block:∀ b,b<w.heap.size→b≠r→ov.ownBlock≠some b→w'.heap[b]?=w.heap[b]?
def dJ(w:World)(ov nG:Value):Prop:=∀ g,nG.ownBlock=some g→ov.ownBlock=some g∨w.heap.size≤g
theorem dJ.refl(w:World)(ov:Value):dJ w ov ov:=fun _ h=>.inl h
theorem dJ.trans{w w1:World}{ov vS Dq:Value}(f:dJ w ov vS)(hs:w.heap.size≤w1.heap.size)(k:dJ w1 vS Dq):dJ w ov Dq:=fun g hg=>by
 rcases k g hg with h | h
 ·exact f g h
 ·exact .inr (by omega)
theorem dJ.ne{w:World}{ov nG:Value}{b:Nat}(f:dJ w ov nG)(hb:b<w.heap.size)(h:ov.ownBlock≠some b):nG.ownBlock≠some b:=fun e=>by
 rcases f b e with h1 | h1
 ·exact h h1
 ·omega
theorem aH.refl(r:Nat)(ov:Value)(w:World):aH r ov w w:=⟨Below.refl _ _,fun _ _ _ _=>rfl⟩
theorem aH.trans{r:Nat}{ov vS:Value}{a b c:World}(h:aH r ov a b)(f:dJ a ov vS)(k:aH r vS b c):aH r ov a c :=
 ⟨h.low.trans k.low,fun x hx hr hg=>by rw[k.block x (Nat.lt_of_lt_of_le hx h.low.size) hr (f.ne hx hg),h.block x hx hr hg]⟩
theorem aH.tr{r:Nat}{ov:Value}{a b c:World}(h:aH r ov a b)(k:aH r ov b c):aH r ov a c:=h.trans (dJ.refl _ _) k
theorem aH.below{r:Nat}{ov:Value}{w w':World}(hr:r≤w.heap.size)(h:Below w.heap.size w w'):aH r ov w w':=⟨h.mono hr,fun b hb _ _=>h.block b hb⟩
theorem aH.set{r:Nat}{ov:Value}(w:World)(i:Nat)(v:Value):aH r ov w (w.setCell ⟨r,i,none⟩ v):=⟨(Below.refl r w).setCell (by simp) v,fun b _ hr _=>heap_setCell_other w ⟨r,i,none⟩ b v hr⟩
theorem aH.later{r:Nat}{ov:Value}{w w':World}(h:aH r ov w w'){a:Addr}(ha:w.heap.size≤a.block)(hr:r≤a.block)(v:Value):aH r ov w (w'.setCell a v) :=
 ⟨h.low.setCell hr v,fun b hb h1 h2=>(heap_setCell_other w' a b v (by omega)).trans (h.block b hb h1 h2)⟩
theorem aH.alloc{r:Nat}{ov:Value}{w w':World}(h:aH r ov w w')(hr:r≤w'.heap.size)(o:Obj):aH r ov w (w'.alloc o):=h.tr (aH.below hr ((Below.refl _ _).alloc (Nat.le_refl _) o))
theorem aH.grown{r:Nat}{ov:Value}{w w':World}(hg:w.grownBy w' ov.ownBlock)(hr:r≤w.heap.size)(h:∀ g,ov.ownBlock=some g→r≤g):aH r ov w w' :=
 ⟨⟨hg.os,hg.tape,hg.output,hg.size,fun k hk=>hg.block k (by omega) fun e=>by have:=h k e.symm;omega⟩,fun b hb _ h2=>hg.block b hb fun e=>h2 e.symm⟩
theorem aH.Dt{r:Nat}{ov:Value}{w0 w w':World}(h:aH r ov w0 w){row:Option Nat}(hg:w.grownBy w' row)(hr:r≤w.heap.size)(hn:∀ g,row=some g→r≤g∧w0.heap.size≤g):aH r ov w0 w' :=
 ⟨h.low.trans ⟨hg.os,hg.tape,hg.output,hg.size,fun k hk=>hg.block k (by omega) fun e=>by have:=hn k e.symm;omega⟩,
  fun b hb h1 h2=>by rw[hg.block b (Nat.lt_of_lt_of_le hb h.low.size) fun e=>by have:=hn b e.symm;omega];exact h.block b hb h1 h2⟩
theorem Own.dh{α:Type}{w w':World}{base E size:Nat}{enc:α→List Value}{v:Value}{xs:List α}(h:Own w base E size enc v xs)(hb:∀ g,v.ownBlock=some g→w'.heap[g]?=w.heap[g]?):Own w' base E size enc v xs:=by
 obtain⟨a,cap,rfl,hle,hm,hh⟩:=h
 refine⟨a,cap,rfl,hle,hm,?_⟩
 rcases hh with hh | ⟨g,cur,rfl,hbg,hg,hr⟩
 ·exact .inl hh
 ·exact .inr ⟨g,cur,rfl,hbg,(hb g rfl).trans hg,hr⟩
theorem Own.bY{α:Type}{w:World}{base E size:Nat}{enc:α→List Value}{v:Value}{xs:List α}(h:Own w base E size enc v xs)(g:Nat)(hg:v.ownBlock=some g):base≤g∧g<w.heap.size:=by
 obtain⟨a,cap,rfl,_,_,hh⟩:=h
 rcases hh with⟨rfl,_⟩ | ⟨g',cur,rfl,hb,hg',_⟩
 ·simp[Value.ownBlock] at hg
 ·simp[Value.ownBlock] at hg;subst hg;exact⟨hb,hg'.lt⟩
structure dM(w:World)(r:Nat)(ov:Value)(m:Nat)(V:Vt):Prop where
 lies:Lies w V
 on:On (fun b=>m≤b∧b≠r∧ov.ownBlock≠some b) V
theorem dM.kept{w w':World}{r m:Nat}{ov nG:Value}{V:Vt}(h:dM w r ov m V)(k:aH r ov w w')(f:dJ w ov nG):dM w' r nG m V :=
 ⟨h.lies.dR (h.on.and h.lies.on) fun b ⟨⟨_,h1,h2⟩,h3⟩=>k.block b h3 h1 h2,(h.on.and h.lies.on).mono fun _ ⟨⟨h0,h1,h2⟩,h3⟩=>⟨h0,h1,f.ne h3 h2⟩⟩
theorem dM.dh{w w':World}{r m:Nat}{ov:Value}{V:Vt}(h:dM w r ov m V)(hb:Below w.heap.size w w'):dM w' r ov m V:=⟨h.lies.kept hb,h.on⟩
theorem dM.mono{w:World}{r m m':Nat}{ov:Value}{V:Vt}(h:dM w r ov m V)(hm:m'≤m):dM w r ov m' V:=⟨h.lies,h.on.mono fun _ ⟨h0,h1,h2⟩=>⟨by omega,h1,h2⟩⟩
theorem dM.new{w w':World}{r m:Nat}{ov:Value}{V:Vt}(hl:Lies w' V)(ho:On (fun b=>w.heap.size≤b) V)(hr:r<w.heap.size)(hm:m≤w.heap.size)(hov:∀ g,ov.ownBlock=some g→g<w.heap.size):dM w' r ov m V :=
 ⟨hl,ho.mono fun _ hb=>⟨by omega,by omega,fun e=>by have:=hov _ e;omega⟩⟩
end
end Go.Proofs.YtbemonecmmnlcaaGreatDoor
