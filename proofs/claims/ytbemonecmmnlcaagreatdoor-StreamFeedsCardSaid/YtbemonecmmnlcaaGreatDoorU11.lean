/- The texts of T11, in few letters (mini.py). -/
import Derived.Test.YtbemonecmmnlcaaGreatDoorU10
set_option linter.unusedVariables false
set_option linter.unusedSimpArgs false
set_option maxRecDepth 20000
set_option maxHeartbeats 3200000
namespace Go.Proofs.YtbemonecmmnlcaaGreatDoor
section
open Go.RowKit
structure Lx where
 kind:Nat
 at':Nat
 set:aA
 lo:Int
 hi:Int
def mZ(c:Nat):Nat:=if c=40 then 2 else if c=41 then 3 else if c=124 then 4 else if c=42 then 5 else if c=43 then 6 else if c=63 then 7 else 0
def ng(l:List UInt8)(i:Nat):Sum (Nat×Nat) (Lx×Nat) :=
 let c:=(l.getD i 0).toNat
 if c=92∨c=91∨c=123∨c=46 then .inl (3,i)
 else if c=93∨c=125∨c=10 then .inl (3,i)
 else if mZ c=0 then .inr (⟨1,i,uT [c],0,0⟩,i+1) else .inr (⟨mZ c,i,0,0,0⟩,i+1)
def II(l:List UInt8):Prop:=∀ b∈l,b.toNat≠92∧b.toNat≠91∧b.toNat≠123∧b.toNat≠46
theorem II.of{l m:List UInt8}(h:II l)(hm:∀ b∈m,b∈l):II m:=fun b hb=>h b (hm b hb)
def lexFrom(l:List UInt8):Nat→Nat→List Lx→Sum (Nat×Nat) (List Lx)
 | 0,_,acc=>.inr acc
 | n+1,i,acc=>if i<l.length then (match ng l i with | .inl q=>.inl q | .inr (x,j)=>lexFrom l n j (acc++[x])) else .inr acc
def jM(l:List UInt8):Sum (Nat×Nat) (List Lx):=if 65536<l.length then .inl (4,65536) else lexFrom l (l.length+1) 0 []
def Bl(k:Int):List Tr→Tr
 | [x]=>x
 | l=>.mk k 0 l 0 0
def dR:List Lx→Tr→Tr×List Lx
 | [],x=>(x,[])
 | a::r,x=>if a.kind=5 then dR r (.mk 6 0 [x] 0 0) else if a.kind=6 then dR r (.mk 7 0 [x] 0 0) else if a.kind=7 then dR r (.mk 8 0 [x] 0 0)
  else if a.kind=8 then dR r (.mk 9 0 [x] a.lo a.hi) else (x,a::r)
mutual
def jc:Nat→Nat→List Tr→List Lx→Option (Sum (Nat×Nat) (Tr×List Lx))
 | 0,_,_,_=>none
 | n+1,d,parts,L=>match jJ n d [] L with
  | none=>none
  | some (.inl q)=>some (.inl q)
  | some (.inr (x,r))=>match r with
   | a::r'=>if a.kind=4 then jc n d (parts++[x]) r' else some (.inr (Bl 5 (parts++[x]),a::r'))
   | []=>some (.inr (Bl 5 (parts++[x]),[]))
def jJ:Nat→Nat→List Tr→List Lx→Option (Sum (Nat×Nat) (Tr×List Lx))
 | 0,_,_,_=>none
 | n+1,d,pieces,L=>match kY n d L with
  | none=>none
  | some (.inl q)=>some (.inl q)
  | some (.inr (some (x,r)))=>jJ n d (pieces++[(dR r x).1]) (dR r x).2
  | some (.inr none)=>some (.inr (if pieces.length=0 then .mk 2 0 [] 0 0 else Bl 4 pieces,L))
def kY:Nat→Nat→List Lx→Option (Sum (Nat×Nat) (Option (Tr×List Lx)))
 | 0,_,_=>none
 | n+1,d,L=>match L with
  | []=>some (.inr none)
  | a::r =>
   if a.kind=1 then some (.inr (some (.mk 3 a.set [] 0 0,r)))
   else if a.kind=2 then
    (if d=64 then some (.inl (17,a.at')) else match jc n (d+1) [] r with
     | none=>none
     | some (.inl q)=>some (.inl q)
     | some (.inr (x,b::r'))=>if b.kind=3 then some (.inr (some (x,r'))) else some (.inl (11,a.at'))
     | some (.inr (_,[]))=>some (.inl (11,a.at')))
   else if a.kind=5∨a.kind=6∨a.kind=7∨a.kind=8 then some (.inl (5,a.at'))
   else if a.kind=3∧d=0 then some (.inl (12,a.at'))
   else some (.inr none)
end
def uG(n:Nat)(l:List UInt8):Option (Sum (Nat×Nat) Tr) :=
 match jM l with
 | .inl q=>some (.inl q)
 | .inr L=>if 1024<L.length then some (.inl (4,(L.getD 1024 ⟨0,0,0,0,0⟩).at')) else (jc n 0 [] L).map fun r=>match r with | .inl q=>.inl q | .inr (x,_)=>.inr x
def zF(n:Nat)(have':List (List UInt8))(s:List UInt8):Option (Sum (Nat×Nat) (List UInt8×Tr)) :=
 let k:=runFrom true s
 if have'.length=64 then some (.inl (18,0)) else if k=0 then some (.inl (9,0)) else if 32<k then some (.inl (9,32))
 else if Bh s k 58=false then some (.inl (10,k))
 else if have'.contains (s.take k) then some (.inl (8,0))
 else (uG n (s.drop (k+1))).map fun r=>match r with | .inl q=>.inl (q.1,q.2+(k+1)) | .inr x=>.inr (s.take k,x)
end
section
open Go.RowKit
def gJ(x:Lx):List Value:=[.int .i64 x.kind,.int .i64 x.at',.int .u64 (word x.set 0:Nat),.int .u64 (word x.set 1:Nat),.int .u64 (word x.set 2:Nat),.int .u64 (word x.set 3:Nat),.int .i64 x.lo,.int .i64 x.hi]
theorem xC:fD gJ 8:=⟨fun _=>rfl,fun x u hu=>by
 simp[gJ] at hu
 rcases hu with rfl | rfl | rfl | rfl | rfl | rfl | rfl | rfl <;> rfl⟩
theorem adu:eu Tryz.prog 252 257 (.agg #[.int .i64 0,.int .i64 0,.int .u64 0,.int .u64 0,.int .u64 0,.int .u64 0,.int .i64 0,.int .i64 0]) 8 64:=⟨Tryz.underlying252,info_parts (by kernel_rfl),rfl,by decide⟩
theorem JK:(Tryz.prog.info? 257).map (·.size)=some 8:=by kernel_rfl
def spC(g:Nat×Nat)(n cap i:Nat)(v:Value)(k p:Nat):Array Value:=#[.slice (some ⟨g.1,g.2,none⟩) n cap,.int .i64 i,v,.int .i64 k,.int .i64 p]
structure fA(w:World)(r base:Nat)(g:Nat×Nat)(n cap i:Nat)(l:List UInt8)(X:List Lx)(v:Value)(k p:Nat):Prop where
 box:Box w r (spC g n cap i v k p) 305
 sl:ak w (.slice (some ⟨g.1,g.2,none⟩) n cap) 1 bf l
 out:Own w base 257 8 gJ v X
 ne:g.1≠r
 lt:g.1<base
theorem fA.kept{w w':World}{r base:Nat}{g:Nat×Nat}{n cap i:Nat}{l:List UInt8}{X:List Lx}{v:Value}{k p:Nat}(h:fA w r base g n cap i l X v k p)(hb:Below w.heap.size w w'):fA w' r base g n cap i l X v k p :=
 ⟨h.box.kept hb,h.sl.kept hb,h.out.kept hb,h.ne,h.lt⟩
theorem fA.cells{w:World}{r base:Nat}{g:Nat×Nat}{n cap i:Nat}{l:List UInt8}{X:List Lx}{v:Value}{k p:Nat}(h:fA w r base g n cap i l X v k p) :
  w.cell? ⟨r,0,none⟩=some (.slice (some ⟨g.1,g.2,none⟩) n cap)∧w.cell? ⟨r,1,none⟩=some (.int .i64 i)∧w.cell? ⟨r,2,none⟩=some v∧w.cell? ⟨r,3,none⟩=some (.int .i64 k)∧w.cell? ⟨r,4,none⟩=some (.int .i64 p) :=
 ⟨h.box.cell 0,h.box.cell 1,h.box.cell 2,h.box.cell 3,h.box.cell 4⟩
def sZ(r base:Nat)(g:Nat×Nat)(n cap i:Nat)(l:List UInt8)(X:List Lx)(k p:Nat)(w:World)(u:Value)(e:Ending)(w':World):Prop :=
 e=.returned u∧(∃ a c,fA w' r base g n cap i l X (.slice a X.length c) k p)∧dn r base w w'
theorem fA.form{w:World}{r base:Nat}{g:Nat×Nat}{n cap i:Nat}{l:List UInt8}{X:List Lx}{v:Value}{k p:Nat}(h:fA w r base g n cap i l X v k p):∃ a c,v=.slice a X.length c:=h.out.form
theorem fA.FI{w:World}{r base:Nat}{g:Nat×Nat}{n cap i:Nat}{l:List UInt8}{X:List Lx}{v:Value}{k p:Nat}(h:fA w r base g n cap i l X v k p)(j:Nat)(u:Value) :
  ak (w.setCell ⟨r,j,none⟩ u) (.slice (some ⟨g.1,g.2,none⟩) n cap) 1 bf l:=(dn.set (base:=base) w j u).cells.slice h.sl (fun _ ad e=>by cases e;show ¬ (g.1=r∨base≤g.1);have:=h.ne;have:=h.lt;omega)
theorem fA.place{w:World}{r base:Nat}{g:Nat×Nat}{n cap i:Nat}{l:List UInt8}{X:List Lx}{v:Value}{k p:Nat}(h:fA w r base g n cap i l X v k p)(hr:r<base)(j:Nat):fA (w.setCell ⟨r,1,none⟩ (.int .i64 (j:Nat))) r base g n cap j l X v k p :=
 ⟨h.box.set 1 _,h.FI 1 _,h.out.other _ _ hr,h.ne,h.lt⟩
theorem fA.fault{w:World}{r base:Nat}{g:Nat×Nat}{n cap i:Nat}{l:List UInt8}{X:List Lx}{v:Value}{k p:Nat}(h:fA w r base g n cap i l X v k p)(hr:r<base)(k' p':Nat) :
  fA ((w.setCell ⟨r,3,none⟩ (.int .i64 (k':Nat))).setCell ⟨r,4,none⟩ (.int .i64 (p':Nat))) r base g n cap i l X v k' p' :=
 ⟨(h.box.set 3 _).set 4 _,(fA.FI ⟨h.box.set 3 (.int .i64 (k':Nat)),h.FI 3 _,h.out.other _ _ hr,h.ne,h.lt⟩ (k:=k') (p:=p) 4 _),(h.out.other _ _ hr).other _ _ hr,h.ne,h.lt⟩
theorem fA.append{w w' w2:World}{r base:Nat}{g:Nat×Nat}{n cap i:Nat}{l:List UInt8}{X:List Lx}{v:Value}{k p:Nat}{a':Option Addr}{n' c':Nat}{x:Lx}(h:fA w r base g n cap i l X v k p)(hr:r<base)(hg:w.grownBy w' v.ownBlock)
  (ho:Own w' base 257 8 gJ (.slice a' n' c') (X++[x])) (hl:Below w'.heap.size w' w2):fA (w2.setCell ⟨r,2,none⟩ (.slice a' n' c')) r base g n cap i l (X++[x]) (.slice a' n' c') k p:=by
 have hb:=(h.box.iL h.out hg (by decide)).kept hl
 have hs:ak w' (.slice (some ⟨g.1,g.2,none⟩) n cap) 1 bf l:=(aS.grown (X:=fun b=>base≤b) h.out hg (fun _ h=>h)).slice h.sl (fun _ ad e=>by cases e;show ¬ base≤g.1;have:=h.lt;omega)
 exact⟨hb.set 2 _,(dn.set (base:=base) w2 2 _).cells.slice (hs.kept hl) (fun _ ad e=>by cases e;show ¬ (g.1=r∨base≤g.1);have:=h.ne;have:=h.lt;omega),(ho.kept hl).other _ _ hr,h.ne,h.lt⟩
theorem ahK(r base:Nat)(g:Nat×Nat)(n cap i:Nat)(l:List UInt8)(X:List Lx)(v:Value)(k p:Nat)(x:Lx)(next:Nat)(w:World)(h:fA w r base g n cap i l X v k p)(hr:r<base)(hb:base≤w.heap.size)(hX:X.length≤4294967296) :
  Calls Tryz.prog 301 #[.pointer (some ⟨r,0,none⟩),.agg (gJ x).toArray,.int .i64 next] w (sZ r base g n cap next l (X++[{ x with at':=i }]) k p w (.tuple #[])):=by
 have h1:=h.kept (aj w (.cells (gJ x).toArray 257))
 obtain⟨x0,x1,x2,x3,x4⟩:=h1.cells
 obtain⟨x',hx'⟩:∃ x':Lx,{ x with at':=i }=x':=⟨_,rfl⟩
 have he:(gJ x).set 1 (.int .i64 i)=gJ x':=by rw[←hx'];rfl
 rw[hx']
 have hx2:=Box.new w (gJ x').toArray 257
 have h2:=h.kept (aj w (.cells (gJ x').toArray 257))
 have hk2:=dn.below (base:=base) (by omega:r≤w.heap.size) (aj w (.cells (gJ x').toArray 257))
 have hW:(w.alloc (.cells (gJ x').toArray 257)).heap.size=w.heap.size+1:=by simp
 go_enter Tryz.func301,Tryz.ntmps301
 go_wp2_with fail
 generalize (w.alloc (.cells (gJ x').toArray 257))=W2 at *
 clear h1 x0 x1 x2 x3 x4 he hx'
 have HF:Hid (∀ u,Later W2.drew u→fA u r base g n cap i l X v k p∧Box u w.heap.size (gJ x').toArray 257∧dn r base w u):=ah fun u hl =>
  ⟨(h2.kept (Below.refl _ _).drew).kept hl,hx2.drew.kept hl,hk2.trans ((dn.below (base:=base) (by omega) (Below.refl W2.heap.size W2).drew).trans (dn.below (by show r≤W2.heap.size;omega) hl))⟩
 clear h2 hx2 hk2
 refine jq (R:=Later) [7,10] (by kernel_rfl) ?_
 refine DX (T:=[7,10]) (i:=5) rfl (by kernel_rfl) (by kernel_rfl) (by kernel_rfl) (by kernel_rfl) (fun _ _ _ h=>h) (by rfl) (fun w1 hl=>fM 257 _ rfl _ rfl ((HF.out w1 hl).2.1) Tryz.underlying257 rfl (JK)) ?_
 simp only[eA,eB,eC,Act.put,eD,eE,eF]
 refine pl [0,1,2,3] ?_
 repeat
  refine qV ?_ rfl (fun w1=>?_) ?_
  rotate_left
  ·go_simp;try with_reducible rfl
  simp only[eA,eB,eC,Act.put,eD,eE,eF]
 refine dI ?_
 refine EJ 4 ?_ rfl (fun w1 hl=>?_) ?_
 rotate_left
 ·obtain⟨hS,_,_⟩:=HF.out w1 hl;obtain⟨x0,x1,x2,x3,x4⟩:=hS.cells;go_simp;try with_reducible rfl
 simp only[eA,eB,eC,Act.put,eD,eE,eF]
 refine fH (T:=[7,10]) (i:=6) (by kernel_rfl) rfl (fun w1 hl K hK=>?_)
 go_simp
 refine hK.out _ _ (fun _=>aj _ _) ?_
 have hsl:=pR xC w1 257 [x'] (by simp[maxLen])
 have hlA:Later _ (w1.alloc (.cells ([x'].flatMap gJ).toArray 257)):=Later.trans _ _ _ hl (aj _ _)
 clear hK K hl
 refine fH (T:=[7,10]) (i:=7) (by kernel_rfl) rfl (fun w1 hl K hK=>?_)
 obtain⟨hS,_,hkp⟩:=HF.out w1 (Later.trans _ _ _ hlA hl)
 have hnw:=C9 (hsl.kept hl)
 have hsw:base≤w1.heap.size:=by have:=hkp.others.size;omega
 clear hsl hl hlA
 obtain⟨a0,c0,rfl⟩:=hS.form
 refine dD (by rfl) ?_
 refine nN _ _ 252 rfl adu xC rfl hS.out _ 1 x' rfl hnw (by simp[maxLen];omega) (by omega) (by omega) ?_
 intro a' cap' w' hown' hg hfr
 refine hK.out _ _ (fun h=>absurd h (by decide)) ?_
 clear hK K hnw
 simp only[List.getElem_toArray,List.getElem_cons_zero,List.getElem_cons_succ,Act.put,List.setIfInBounds_toArray,List.set_cons_zero,List.set_cons_succ]
 have hX0:=hS.box.iL hS.out hg (by decide)
 have hK0:=hkp.trans (dn.grown hS.out hg (Nat.le_of_lt hr) (by omega))
 refine pl [8,9] ?_
 repeat
  refine qV ?_ rfl (fun w1=>?_) ?_
  rotate_left
  ·go_simp;try with_reducible rfl
  simp only[eA,eB,eC,Act.put,eD,eE,eF]
 refine dI ?_
 refine fH (T:=[7,10]) (i:=10) (by kernel_rfl) rfl (fun w1 hl K hK=>?_)
 have hx:=hX0.kept hl
 have x0:=hx.cell 2
 have f0:=hx.free 2
 go_simp
 refine hK.out _ _ (fun h=>absurd h (by decide)) ?_
 clear hK K x0 f0
 have zf:=hS.append hr hg hown' hl
 have hKN:=(hK0.trans (dn.below (Nat.le_of_lt hX0.lt) hl)).trans (dn.set (base:=base) w1 2 (.slice a' (X.length+1) cap'))
 clear hl hx hX0 hK0 hS hg hown' hkp
 refine nK (by kernel_rfl) (fun w1 hl=>?_) _
 have zf:=zf.kept hl
 have hKN:=hKN.trans (dn.below (by have:=zf.box.lt;have:=hl.size;have:=hKN.others.size;omega) hl)
 clear hl HF
 obtain⟨x0,x1,x2,x3,x4⟩:=zf.cells
 have f1:=zf.box.free 1
 go_wp2
 go_end0
 exact⟨rfl,⟨a',cap',by rw[List.length_append];exact zf.place hr next⟩,hKN.trans (dn.set _ _ _)⟩
end
section
open Go.RowKit
theorem sZ.over{r base:Nat}{g:Nat×Nat}{n cap i:Nat}{l:List UInt8}{X:List Lx}{k p:Nat}{w w1:World}{u:Value}{e:Ending}{w':World}(ho:dn r base w w1)(h:sZ r base g n cap i l X k p w1 u e w'):sZ r base g n cap i l X k p w u e w':=⟨h.1,h.2.1,ho.trans h.2.2⟩
abbrev ahL(k:Nat)(s:aA)(lo hi:Int):Value:=.agg #[.int .i64 k,.int .i64 0,.int .u64 (word s 0:Nat),.int .u64 (word s 1:Nat),.int .u64 (word s 2:Nat),.int .u64 (word s 3:Nat),.int .i64 lo,.int .i64 hi]
theorem fA.byte{w:World}{r base:Nat}{g:Nat×Nat}{n cap i:Nat}{l:List UInt8}{X:List Lx}{v:Value}{k p:Nat}(h:fA w r base g n cap i l X v k p):n=l.length∧n≤9223372036854775807∧∀ j (hj:j<l.length),w.cell? ⟨g.1,g.2+j,none⟩=some (.int .u8 (l[j]).toNat):=by
 obtain⟨h1,h2,h3,h4⟩:=h.sl.cellsA
 exact⟨h1,by omega,fun j hj=>h4 j hj w (Below.refl _ _)⟩
theorem agA(r base:Nat)(g:Nat×Nat)(n cap i:Nat)(l:List UInt8)(X:List Lx)(v:Value)(k p:Nat)(kd:Nat)(w:World)(h:fA w r base g n cap i l X v k p)(hr:r<base) :
  Calls Tryz.prog 273 #[.pointer (some ⟨r,0,none⟩),.int .i64 kd] w (sZ r base g n cap i l X kd i w (.tuple #[])):=by
 obtain⟨x0,x1,x2,x3,x4⟩:=h.cells
 have f3:=h.box.free 3
 have f4:=h.box.free 4
 have HS:=ah h
 clear h
 go_enter Tryz.func273,Tryz.ntmps273
 go_wp2
 go_end0
 obtain⟨a,c,rfl⟩:=HS.out.form
 exact⟨rfl,⟨a,c,HS.out.fault hr kd i⟩,(dn.set _ _ _).trans (dn.set _ _ _)⟩
theorem V9(r base:Nat)(g:Nat×Nat)(n cap i:Nat)(l:List UInt8)(X:List Lx)(v:Value)(k p:Nat)(kd:Nat)(s:aA)(lo hi:Int)(next:Nat)(w:World)(h:fA w r base g n cap i l X v k p)(hr:r<base)(hb:base≤w.heap.size)(hX:X.length≤4294967296) :
  Calls Tryz.prog 301 #[.pointer (some ⟨r,0,none⟩),ahL kd s lo hi,.int .i64 next] w (sZ r base g n cap next l (X++[⟨kd,i,s,lo,hi⟩]) k p w (.tuple #[])) :=
 ahK r base g n cap i l X v k p ⟨kd,0,s,lo,hi⟩ next w h hr hb hX
theorem agB(r base:Nat)(g:Nat×Nat)(n cap i:Nat)(l:List UInt8)(X:List Lx)(v:Value)(k p:Nat)(kd:Nat)(lo hi:Int)(next:Nat)(w:World)(h:fA w r base g n cap i l X v k p)(hr:r<base)(hb:base≤w.heap.size)(hX:X.length≤4294967296) :
  Calls Tryz.prog 301 #[.pointer (some ⟨r,0,none⟩),.agg #[.int .i64 kd,.int .i64 0,.int .u64 0,.int .u64 0,.int .u64 0,.int .u64 0,.int .i64 lo,.int .i64 hi],.int .i64 next] w (sZ r base g n cap next l (X++[⟨kd,i,0,lo,hi⟩]) k p w (.tuple #[])):=by
 have:=V9 r base g n cap i l X v k p kd 0 lo hi next w h hr hb hX
 simp only[ahL,qQ] at this
 exact this
theorem ahM(r base:Nat)(g:Nat×Nat)(n cap i:Nat)(l:List UInt8)(X:List Lx)(v:Value)(k p:Nat)(s:aA)(next:Nat)(w:World)(h:fA w r base g n cap i l X v k p)(hr:r<base)(hb:base≤w.heap.size)(hX:X.length≤4294967296) :
  Calls Tryz.prog 270 #[.pointer (some ⟨r,0,none⟩),oh s,.int .i64 next] w (sZ r base g n cap next l (X++[⟨1,i,s,0,0⟩]) k p w (.tuple #[])):=by
 have h1:=h.kept (aj w (.cells (eY s) 149))
 have hk1:=dn.below (base:=base) (by omega:r≤w.heap.size) (aj w (.cells (eY s) 149))
 have hx:=Box.new w (eY s) 149
 have hp:=fun w1 h1 hb1=>V9 r base g n cap i l X v k p 1 s 0 0 next w1 h1 hr hb1 hX
 obtain⟨⟨c0,c1,c2,c3⟩,_⟩:=hx.BP
 have HP:=ah (hp _ h1 (by simp;omega))
 clear hp h h1 hx
 go_enter Tryz.func270,Tryz.ntmps270
 go_wp2_with (go_at_call 301;go_must (refine HP.out.mono ?_;rintro e w3 ⟨rfl,hS3,hK3⟩))
 go_end0
 exact⟨rfl,hS3,hk1.trans hK3⟩
def qw(r base:Nat)(g:Nat×Nat)(n cap i:Nat)(l:List UInt8)(X:List Lx)(k p:Nat)(w:World)(c:Nat)(e:Ending)(w':World):Prop :=
 if mZ c=0 then bM w (.bool false) e w' else sZ r base g n cap (i+1) l (X++[⟨mZ c,i,0,0,0⟩]) k p w (.bool true) e w'
theorem agC(r base:Nat)(g:Nat×Nat)(n cap i:Nat)(l:List UInt8)(X:List Lx)(v:Value)(k p:Nat)(w:World)(h:fA w r base g n cap i l X v k p)(hr:r<base)(hb:base≤w.heap.size)(hX:X.length≤4294967296)(hi:i<l.length) :
  Calls Tryz.prog 274 #[.pointer (some ⟨r,0,none⟩)] w (qw r base g n cap i l X k p w (l[i]).toNat):=by
 obtain⟨hlen,hn63,hbyte⟩:=h.byte
 have hby:=fun u (hu:fA u r base g n cap i l X v k p)=>hu.byte.2.2 i hi
 clear hbyte
 generalize (l[i]).toNat=c at *
 have hi0:(0:Int)≤(i:Int):=by omega
 have hin:(i:Int)<(n:Int):=by omega
 have hw1:IntKind.i64.wrap ((i:Int)+1)=((i+1:Nat):Int):=by rw[IntWalk.i64_in _ (by omega)];omega
 have Wh:=ah hby
 have HF:Hid (∀ u,Later w.drew u→fA u r base g n cap i l X v k p∧dn r base w u∧Below w.heap.size w u):=ah fun u hl=>⟨(h.kept (Below.refl _ _).drew).kept hl,(dn.below (base:=base) (by omega) (Below.refl w.heap.size w).drew).trans (dn.below (by show r≤w.heap.size;omega) hl),(Below.refl _ w).drew.trans (Below.mono hl (Nat.le_refl _))⟩
 have HP:=ah fun kind w1 h1 hb1=>agB r base g n cap i l X v k p kind 0 0 (i+1) w1 h1 hr hb1 hX
 clear hby h hlen
 go_enter Tryz.func274,Tryz.ntmps274
 go_wp2_with fail
 refine aH (R:=Later) 10 (by kernel_rfl) ?_
 refine pl [0,1,2,3,4,5,6,7,8,9] ?_
 repeat
  refine gU ?_ rfl (fun w1 hl=>?_) ?_
  rotate_left
  ·have hS:=(HF.out w1 hl).1;obtain⟨x0,x1,x2,x3,x4⟩:=hS.cells;have c0:=Wh.out w1 hS;go_simp;try with_reducible rfl
  simp only[eA,eB,eC,Act.put,eD,eE,eF]
 refine dI ?_
 refine aQ (by kernel_rfl) (fun w1 hl=>?_) _
 obtain⟨hS,hK,hB⟩:=HF.out w1 hl
 obtain⟨x0,x1,x2,x3,x4⟩:=hS.cells
 have hsz:=hK.others.size
 clear hl HF Wh
 by_cases IJ:c=40
 ·have e40:((c:Int)==40)=true:=by rw[IJ];rfl
  have sk:=ah (show mZ c=2 by rw[IJ];rfl)
  clear IJ
  go_wp2_with (go_at_call 301;go_must (refine(HP.out 2 _ hS (by omega)).mono ?_;rintro e w3 ⟨rfl,hS3,hK3⟩))
  go_ret
  unfold qw
  rw[if_neg (by rw[sk.out];decide),sk.out]
  exact⟨rfl,hS3,hK.trans hK3⟩
 have e40:((c:Int)==40)=false:=by simp;omega
 by_cases Lr:c=41
 ·have e41:((c:Int)==41)=true:=by rw[Lr];rfl
  have sk:=ah (show mZ c=3 by rw[Lr];rfl)
  clear IJ Lr
  go_wp2_with (go_at_call 301;go_must (refine(HP.out 3 _ hS (by omega)).mono ?_;rintro e w3 ⟨rfl,hS3,hK3⟩))
  go_ret
  unfold qw
  rw[if_neg (by rw[sk.out];decide),sk.out]
  exact⟨rfl,hS3,hK.trans hK3⟩
 have e41:((c:Int)==41)=false:=by simp;omega
 by_cases FK:c=124
 ·have anb:((c:Int)==124)=true:=by rw[FK];rfl
  have sk:=ah (show mZ c=4 by rw[FK];rfl)
  clear IJ Lr FK
  go_wp2_with (go_at_call 301;go_must (refine(HP.out 4 _ hS (by omega)).mono ?_;rintro e w3 ⟨rfl,hS3,hK3⟩))
  go_ret
  unfold qw
  rw[if_neg (by rw[sk.out];decide),sk.out]
  exact⟨rfl,hS3,hK.trans hK3⟩
 have anb:((c:Int)==124)=false:=by simp;omega
 by_cases RN:c=42
 ·have e42:((c:Int)==42)=true:=by rw[RN];rfl
  have sk:=ah (show mZ c=5 by rw[RN];rfl)
  clear IJ Lr FK RN
  go_wp2_with (go_at_call 301;go_must (refine(HP.out 5 _ hS (by omega)).mono ?_;rintro e w3 ⟨rfl,hS3,hK3⟩))
  go_ret
  unfold qw
  rw[if_neg (by rw[sk.out];decide),sk.out]
  exact⟨rfl,hS3,hK.trans hK3⟩
 have e42:((c:Int)==42)=false:=by simp;omega
 by_cases Wi:c=43
 ·have e43:((c:Int)==43)=true:=by rw[Wi];rfl
  have sk:=ah (show mZ c=6 by rw[Wi];rfl)
  clear IJ Lr FK RN Wi
  go_wp2_with (go_at_call 301;go_must (refine(HP.out 6 _ hS (by omega)).mono ?_;rintro e w3 ⟨rfl,hS3,hK3⟩))
  go_ret
  unfold qw
  rw[if_neg (by rw[sk.out];decide),sk.out]
  exact⟨rfl,hS3,hK.trans hK3⟩
 have e43:((c:Int)==43)=false:=by simp;omega
 by_cases q63:c=63
 ·have e63:((c:Int)==63)=true:=by rw[q63];rfl
  have sk:=ah (show mZ c=7 by rw[q63];rfl)
  clear IJ Lr FK RN Wi q63
  go_wp2_with (go_at_call 301;go_must (refine(HP.out 7 _ hS (by omega)).mono ?_;rintro e w3 ⟨rfl,hS3,hK3⟩))
  go_ret
  unfold qw
  rw[if_neg (by rw[sk.out];decide),sk.out]
  exact⟨rfl,hS3,hK.trans hK3⟩
 have e63:((c:Int)==63)=false:=by simp;omega
 have sk:=ah (show mZ c=0 by unfold mZ;simp only[IJ,Lr,FK,RN,Wi,q63,if_false])
 clear IJ Lr FK RN Wi q63
 go_wp2
 go_ret
 unfold qw
 rw[if_pos sk.out]
 exact⟨rfl,hB⟩
end
section
open Go.RowKit
structure FM(w W:World)(g:Nat×Nat)(n cap i k p:Nat)(l:List UInt8):Prop where
 x0:Box W w.heap.size #[.int .i64 0,.int .i64 0] 88
 rd:rE W (w.heap.size+1) g n cap i 0 k p l
 below:Below w.heap.size w W
theorem FM.kept{w W W':World}{g:Nat×Nat}{n cap i k p:Nat}{l:List UInt8}(h:FM w W g n cap i k p l)(hb:Below W.heap.size W W'):FM w W' g n cap i k p l:=⟨h.x0.kept hb,h.rd.kept hb,h.below.trans (hb.mono h.below.size)⟩
theorem FM.step{w W W':World}{g:Nat×Nat}{n cap i k p i' k' p':Nat}{l:List UInt8}(h:FM w W g n cap i k p l)(hr:rE W' (w.heap.size+1) g n cap i' 0 k' p' l)(ho:Only (w.heap.size+1) W W'):FM w W' g n cap i' k' p' l :=
 ⟨ho.box h.x0 (by omega),hr,h.below.trans (ho.1.mono (by omega))⟩
theorem FM.start{g:Nat×Nat}{n cap i:Nat}{l:List UInt8}{w:World}(h:ak w (.slice (some ⟨g.1,g.2,none⟩) n cap) 1 bf l)(hg:g.1<w.heap.size) :
  FM w ((w.alloc (.cells #[.int .i64 0,.int .i64 0] 88)).alloc (.cells #[.slice (some ⟨g.1,g.2,none⟩) n cap,.int .i64 i,.int .i64 0,.int .i64 0,.int .i64 0] 390)) g n cap i 0 0 l:=by
 have hb:Below w.heap.size w ((w.alloc (.cells #[.int .i64 0,.int .i64 0] 88)).alloc (.cells #[.slice (some ⟨g.1,g.2,none⟩) n cap,.int .i64 i,.int .i64 0,.int .i64 0,.int .i64 0] 390)):=((Below.refl _ w).alloc (Nat.le_refl _) _).alloc (by simp) _
 exact⟨(Box.new' rfl _ _).alloc _,⟨Box.new' (by simp) _ _,h.kept hb,by omega⟩,hb⟩
end
section
open Go.RowKit
theorem fA.late{w:World}{r base b E:Nat}{g:Nat×Nat}{n cap i:Nat}{l:List UInt8}{X:List Lx}{v:Value}{k p:Nat}{c:Array Value}(h:fA w r base g n cap i l X v k p)(hx:Box w b c E)(hrb:r≠b)(hbb:base≤b)(j:Nat)(u:Value)(hE:E≠257:=by decide) :
  fA (w.setCell ⟨b,j,none⟩ u) r base g n cap i l X v k p:=by
 have hlt:=h.lt
 exact⟨h.box.other _ _ hrb,(aS.set (X:=(·=b)) w ⟨b,j,none⟩ u rfl).slice h.sl (fun _ ad e=>by cases e;show ¬ g.1=b;omega),h.out.yC hx (Ne.symm hE) _ _,h.ne,h.lt⟩
theorem dn.late{r base b i:Nat}(w:World)(hb:base≤b)(hr:r≤b)(u:Value):dn r base w (w.setCell ⟨b,i,none⟩ u):=⟨(Below.refl r _).setCell (by show r≤b;exact hr) _,aS.set _ _ _ (.inr hb),KeepsOthers.setCell _ _ _⟩
end
section
open Go.RowKit
structure adv(W:World)(r base:Nat)(g:Nat×Nat)(n cap i:Nat)(l:List UInt8)(X:List Lx)(v:Value)(k p ps pi E1 j:Nat):Prop where
 sp:fA W r base g n cap i l X v k p
 bs:Box W ps #[.pointer (some ⟨r,0,none⟩)] E1
 bi:Box W pi #[.int .i64 j] 3
 ne:ps≠pi
 ls:base≤ps
 li:base≤pi
 lr:r<base
theorem adv.kept{W W':World}{r base:Nat}{g:Nat×Nat}{n cap i:Nat}{l:List UInt8}{X:List Lx}{v:Value}{k p ps pi E1 j:Nat}(h:adv W r base g n cap i l X v k p ps pi E1 j)(hb:Below W.heap.size W W'):adv W' r base g n cap i l X v k p ps pi E1 j :=
 ⟨h.sp.kept hb,h.bs.kept hb,h.bi.kept hb,h.ne,h.ls,h.li,h.lr⟩
end
section
open Go.RowKit
def kU(r base:Nat)(g:Nat×Nat)(n cap i:Nat)(l:List UInt8)(X:List Lx)(k p:Nat)(w:World)(ans:Sum (Nat×Nat) (Lx×Nat))(e:Ending)(w':World):Prop :=
 match ans with
 | .inl q=>sZ r base g n cap i l X q.1 q.2 w (.tuple #[]) e w'
 | .inr q=>sZ r base g n cap q.2 l (X++[q.1]) k p w (.tuple #[]) e w'
end
section
open Go.RowKit
theorem kU.ret{r base:Nat}{g:Nat×Nat}{n cap i:Nat}{l:List UInt8}{X:List Lx}{k p:Nat}{w w':World}{ans:Sum (Nat×Nat) (Lx×Nat)}{e:Ending}(h:kU r base g n cap i l X k p w ans e w'):e=.returned (.tuple #[]):=by
 cases ans with
 | inl q=>exact h.1
 | inr q=>exact h.1
theorem kU.over{r base:Nat}{g:Nat×Nat}{n cap i:Nat}{l:List UInt8}{X:List Lx}{k p:Nat}{w w1 w':World}{ans:Sum (Nat×Nat) (Lx×Nat)}{e:Ending}(ho:dn r base w w1)(h:kU r base g n cap i l X k p w1 ans e w'):kU r base g n cap i l X k p w ans e w':=by
 cases ans with
 | inl q=>exact sZ.over ho h
 | inr q=>exact sZ.over ho h
theorem agD(r base:Nat)(g:Nat×Nat)(n cap i:Nat)(l:List UInt8)(X:List Lx)(v:Value)(k p:Nat)(ps E1:Nat)(w:World)(h:fA w r base g n cap i l X v k p)(hr:r<base)(hps:Box w ps #[.pointer (some ⟨r,0,none⟩)] E1) :
  Calls Tryz.prog 272 #[.pointer (some ⟨ps,0,none⟩)] w (kU r base g n cap i l X k p w (.inl (3,i))):=by
 have y0:=hps.cell 0
 have hf:=agA r base g n cap i l X v k p 3 w h hr
 have HF:=ah hf
 clear hf h hps
 go_enter Tryz.func272,Tryz.ntmps272
 go_wp2_with fail
 refine HF.out.mono ?_
 rintro e uf ⟨rfl,hS,hKf⟩
 go_wp2
 go_end0
 exact⟨rfl,hS,hKf⟩
theorem aap(r base:Nat)(g:Nat×Nat)(n cap i:Nat)(l:List UInt8)(X:List Lx)(v:Value)(k p:Nat)(ps pc E1 x:Nat)(w:World)(h:fA w r base g n cap i l X v k p)(hr:r<base)(hb:base≤w.heap.size)(hps:Box w ps #[.pointer (some ⟨r,0,none⟩)] E1)(hpc:Box w pc #[.int .u8 x] 5)(hx:x<256)(hi:i<n)(hX:X.length≤4294967296) :
  Calls Tryz.prog 275 #[.pointer (some ⟨ps,0,none⟩),.pointer (some ⟨pc,0,none⟩)] w (kU r base g n cap i l X k p w (.inr (⟨1,i,uT [x],0,0⟩,i+1))):=by
 have hn63:=h.byte.2.1
 have hw1:IntKind.i64.wrap ((i:Int)+1)=((i+1:Nat):Int):=by rw[IntWalk.i64_in _ (by omega)];omega
 have hset:=fun u hu hbu=>ahM r base g n cap i l X v k p (uT [x]) (i+1) u hu hr hbu hX
 have hof:=fun b w1 h=>VQ (some ⟨b,0,none⟩) 1 [x] w1 h (by simpa using hx)
 have RP:=ah hset
 have IB:=ah hof
 have HF:Hid (∀ u,Later w.drew u→fA u r base g n cap i l X v k p∧Box u ps #[.pointer (some ⟨r,0,none⟩)] E1∧Box u pc #[.int .u8 x] 5∧dn r base w u):=ah fun u hl=>⟨(h.kept (Below.refl _ _).drew).kept hl,hps.drew.kept hl,hpc.drew.kept hl,(dn.below (base:=base) (by omega) (Below.refl w.heap.size w).drew).trans (dn.below (by show r≤w.heap.size;omega) hl)⟩
 clear hset hof h hps hpc
 generalize uT [x]=d at *
 go_enter Tryz.func275,Tryz.ntmps275
 go_wp2_with fail
 refine aH (R:=Later) 9 (by kernel_rfl) ?_
 refine pl [0,1,4,5,6,7,8] ?_
 repeat
  refine gU ?_ rfl (fun w1 hl=>?_) ?_
  rotate_left
  ·obtain⟨hS,hp,hc,_⟩:=HF.out w1 hl;have y0:=hp.cell 0;have y1:=hc.cell 0;obtain⟨x0,x1,x2,x3,x4⟩:=hS.cells;go_simp;try with_reducible rfl
  simp only[eA,eB,eC,Act.put,eD,eE,eF]
 refine dI ?_
 refine aW (t:=9) (i:=2) (by kernel_rfl) rfl (fun w1 hl K hK=>?_)
 go_simp
 refine hK.out _ _ (fun _=>aj _ _) ?_
 have hsl:=QH w1 x 5
 have hlA:Later _ (w1.alloc (.cells #[.int .u8 x] 5)):=Later.trans _ _ _ hl (aj _ _)
 clear hK K hl
 generalize w1.alloc (.cells #[.int .u8 x] 5)=w5 at *
 have HSL:Hid (∀ u,Later w5 u→ak u (.slice (some ⟨w1.heap.size,0,none⟩) 1 1) 1 iG [x]):=ah fun u hl=>hsl.kept hl
 refine CW 3 ?_ ?_ ?_ rfl (fun w1=>?_) (fun w1 hl=>?_) ?_
 rotate_left 4
 ·exact IB.out _ w1 (HSL.out w1 hl)
 rotate_left
 ·go_simp
 simp only[eA,eB,eC,Act.put,eD,eE,eF]
 refine aW (t:=9) (i:=9) (by kernel_rfl) rfl (fun w1 hl K hK=>?_)
 obtain⟨hS,_,_,hK2⟩:=HF.out w1 (Later.trans _ _ _ hlA hl)
 have hsz:=hK2.others.size
 go_simp
 refine(RP.out _ hS (by omega)).mono ?_
 rintro e w2 ⟨rfl,hS3,hK3⟩
 refine hK.out _ _ (fun h=>absurd rfl h) ?_
 clear hK K hl HF hS
 obtain⟨a,c,hS3⟩:=hS3
 have zi:=hK2.trans hK3
 refine aQ (by kernel_rfl) (fun w1 hl=>?_) _
 have hS4:=hS3.kept hl
 go_wp2
 go_end0
 exact⟨rfl,⟨a,c,hS4⟩,zi.trans (dn.below (by have:=hS3.box.lt;omega) hl)⟩
def X6(r base:Nat)(g:Nat×Nat)(n cap i:Nat)(l:List UInt8)(X:List Lx)(k p:Nat)(c:Nat)(A:Sum (Nat×Nat) (Lx×Nat))(u:World)(ps pc:Nat):Prop :=
 if c=92 then Calls Tryz.prog 266 #[.pointer (some ⟨r,0,none⟩)] u (kU r base g n cap i l X k p u A)
 else if c=91 then Calls Tryz.prog 267 #[.pointer (some ⟨r,0,none⟩)] u (kU r base g n cap i l X k p u A)
 else if c=123 then Calls Tryz.prog 268 #[.pointer (some ⟨r,0,none⟩)] u (kU r base g n cap i l X k p u A)
 else if c=46 then Calls Tryz.prog 269 #[.pointer (some ⟨ps,0,none⟩)] u (kU r base g n cap i l X k p u A)
 else if c=93∨c=125∨c=10 then Calls Tryz.prog 272 #[.pointer (some ⟨ps,0,none⟩)] u (kU r base g n cap i l X k p u A)
 else Calls Tryz.prog 274 #[.pointer (some ⟨r,0,none⟩)] u (fun e u'=>e=.returned (.bool true)∧kU r base g n cap i l X k p u A (.returned (.tuple #[])) u') ∨
  (Calls Tryz.prog 274 #[.pointer (some ⟨r,0,none⟩)] u (bM u (.bool false))∧∀ u1,Below u.heap.size u u1→Calls Tryz.prog 275 #[.pointer (some ⟨ps,0,none⟩),.pointer (some ⟨pc,0,none⟩)] u1 (kU r base g n cap i l X k p u1 A))
theorem aaq(r base:Nat)(g:Nat×Nat)(n cap i:Nat)(l:List UInt8)(X:List Lx)(v:Value)(k p:Nat)(A:Sum (Nat×Nat) (Lx×Nat))(w:World)(h:fA w r base g n cap i l X v k p)(hr:r<base)(hb:base≤w.heap.size)(hi:i<l.length)
  (HM:Hid (∀ u,fA u r base g n cap i l X v k p→base≤u.heap.size→∀ ps pc,Box u ps #[.pointer (some ⟨r,0,none⟩)] 340→Box u pc #[.int .u8 (l[i]).toNat] 5→X6 r base g n cap i l X k p (l[i]).toNat A u ps pc)) :
  Calls Tryz.prog 220 #[.pointer (some ⟨r,0,none⟩)] w (kU r base g n cap i l X k p w A):=by
 have hlen:=h.byte.1
 have hn63:=h.byte.2.1
 have hby:=fun u (hu:fA u r base g n cap i l X v k p)=>hu.byte.2.2 i hi
 have hin2:i<n:=by omega
 generalize (l[i]).toNat=c at *
 have hi0:(0:Int)≤(i:Int):=by omega
 have hin:(i:Int)<(n:Int):=by omega
 have Wh:=ah hby
 have h1:=h.kept (aj w (.cells #[.pointer (some ⟨r,0,none⟩)] 340))
 have hp1:=Box.new w #[.pointer (some ⟨r,0,none⟩)] 340
 have hk1:=dn.below (base:=base) (by omega:r≤w.heap.size) (aj w (.cells #[.pointer (some ⟨r,0,none⟩)] 340))
 have y0:=hp1.cell 0
 generalize hps:w.heap.size=ps at *
 clear hby h hi hlen
 go_enter Tryz.func220,Tryz.ntmps220
 go_wp2_with fail
 generalize (w.alloc (.cells #[.pointer (some ⟨r,0,none⟩)] 340))=W0 at *
 have HF:Hid (∀ u,Later W0.drew u→fA u r base g n cap i l X v k p∧Box u ps #[.pointer (some ⟨r,0,none⟩)] 340∧dn r base w u):=ah fun u hl=>⟨(h1.kept (Below.refl _ _).drew).kept hl,hp1.drew.kept hl,hk1.trans ((dn.below (base:=base) (by have:=h1.box.lt;omega) (Below.refl W0.heap.size W0).drew).trans (dn.below (by show r≤W0.heap.size;have:=h1.box.lt;omega) hl))⟩
 clear h1 hp1 hk1
 refine aH (R:=Later) 11 (by kernel_rfl) ?_
 refine pl [0,1,2,3,4,5,6,7,8,9] ?_
 repeat
  refine gU ?_ rfl (fun w1 hl=>?_) ?_
  rotate_left
  ·obtain⟨hS,hp,_⟩:=HF.out w1 hl;have y0:=hp.cell 0;obtain⟨x0,x1,x2,x3,x4⟩:=hS.cells;have c0:=Wh.out w1 hS;go_simp;try with_reducible rfl
  simp only[eA,eB,eC,Act.put,eD,eE,eF]
 refine dI ?_
 refine aW (t:=11) (i:=10) (by kernel_rfl) rfl (fun w1 hl K hK=>?_)
 obtain⟨hS,hp,hK2⟩:=HF.out w1 hl
 have hsz:=hK2.others.size
 have hpl:=hp.lt
 clear hl HF
 go_simp
 refine hK.out _ _ (fun _=>aj _ _) ?_
 clear hK K
 have hpc:=Box.new w1 #[.int .u8 0] 5
 have hS1:=hS.kept (aj w1 (.cells #[.int .u8 0] 5))
 have hp1:=hp.kept (aj w1 (.cells #[.int .u8 0] 5))
 have hK1:=hK2.trans (dn.below (base:=base) (by omega) (aj w1 (.cells #[.int .u8 0] 5)))
 have hrb:r≠w1.heap.size:=by omega
 have hbb:base≤w1.heap.size:=by omega
 have JL:ps≠w1.heap.size:=by omega
 clear hS hK2 hp hpl hsz
 generalize hbq:w1.heap.size=pc at *
 clear hbq
 refine aW (t:=11) (i:=11) (by kernel_rfl) rfl (fun w1 hl K hK=>?_)
 have RQ:=hpc.kept hl
 have hS2:=hS1.kept hl
 have hp2:=hp1.kept hl
 have hK2:=hK1.trans (dn.below (base:=base) (by have:=hS1.box.lt;omega) hl)
 have r0:=RQ.cell 0
 have s0:=RQ.free 0
 clear hpc hS1 hp1 hK1 hl
 go_simp
 refine hK.out _ _ (fun h=>absurd rfl h) ?_
 clear hK K r0 s0
 have ahN:Box _ pc #[.int .u8 c] 5:=RQ.set 0 (.int .u8 c)
 have hS3:=hS2.late RQ hrb hbb 0 (.int .u8 c)
 have hp3:=hp2.other ⟨pc,0,none⟩ (.int .u8 c) JL
 have hK3:=hK2.trans (dn.late (r:=r) (base:=base) w1 (i:=0) hbb (by omega) (.int .u8 c))
 clear RQ hS2 hp2 hK2
 refine aQ (by kernel_rfl) (fun w1 hl=>?_) _
 have X7:=ahN.kept hl
 have hS4:=hS3.kept hl
 have FN:=hp3.kept hl
 have hK4:=hK3.trans (dn.below (base:=base) (by have:=hS3.box.lt;omega) hl)
 clear ahN hS3 hp3 hK3 hl
 have D8:=hK4.others.size
 have y0:=FN.cell 0
 have y1:=X7.cell 0
 have hm:=HM.out _ hS4 (by omega) _ _ FN X7
 clear HM
 unfold X6 at hm
 by_cases q92:c=92
 ·rw[if_pos q92] at hm
  have e92:((c:Int)==92)=true:=by rw[q92];rfl
  clear q92
  go_wp2_with fail
  refine hm.mono ?_
  intro e uf hf
  obtain rfl:=hf.ret
  go_wp2
  go_end0
  exact hf.over hK4
 have e92:((c:Int)==92)=false:=by simp;omega
 rw[if_neg q92] at hm
 clear q92
 by_cases q91:c=91
 ·rw[if_pos q91] at hm
  have e91:((c:Int)==91)=true:=by rw[q91];rfl
  clear q91
  go_wp2_with fail
  refine hm.mono ?_
  intro e uf hf
  obtain rfl:=hf.ret
  go_wp2
  go_end0
  exact hf.over hK4
 have e91:((c:Int)==91)=false:=by simp;omega
 rw[if_neg q91] at hm
 clear q91
 by_cases RS:c=123
 ·rw[if_pos RS] at hm
  have anc:((c:Int)==123)=true:=by rw[RS];rfl
  clear RS
  go_wp2_with fail
  refine hm.mono ?_
  intro e uf hf
  obtain rfl:=hf.ret
  go_wp2
  go_end0
  exact hf.over hK4
 have anc:((c:Int)==123)=false:=by simp;omega
 rw[if_neg RS] at hm
 clear RS
 by_cases q46:c=46
 ·rw[if_pos q46] at hm
  have e46:((c:Int)==46)=true:=by rw[q46];rfl
  clear q46
  go_wp2_with fail
  refine hm.mono ?_
  intro e uf hf
  obtain rfl:=hf.ret
  go_wp2
  go_end0
  exact hf.over hK4
 have e46:((c:Int)==46)=false:=by simp;omega
 rw[if_neg q46] at hm
 clear q46
 by_cases Wj:c=93
 ·rw[if_pos (.inl Wj)] at hm
  have e93:((c:Int)==93)=true:=by rw[Wj];rfl
  clear Wj
  go_wp2_with fail
  refine hm.mono ?_
  intro e uf hf
  obtain rfl:=hf.ret
  go_wp2
  go_end0
  exact hf.over hK4
 have e93:((c:Int)==93)=false:=by simp;omega
 by_cases RU:c=125
 ·rw[if_pos (.inr (.inl RU))] at hm
  have e125:((c:Int)==125)=true:=by rw[RU];rfl
  clear Wj RU
  go_wp2_with fail
  refine hm.mono ?_
  intro e uf hf
  obtain rfl:=hf.ret
  go_wp2
  go_end0
  exact hf.over hK4
 have e125:((c:Int)==125)=false:=by simp;omega
 by_cases q10:c=10
 ·rw[if_pos (.inr (.inr q10))] at hm
  have e10:((c:Int)==10)=true:=by rw[q10];rfl
  clear Wj RU q10
  go_wp2_with fail
  refine hm.mono ?_
  intro e uf hf
  obtain rfl:=hf.ret
  go_wp2
  go_end0
  exact hf.over hK4
 have e10:((c:Int)==10)=false:=by simp;omega
 rw[if_neg (by omega)] at hm
 clear Wj RU q10
 rcases hm with hm | ⟨hs,hm⟩
 ·go_wp2_with fail
  refine hm.mono ?_
  rintro e uf ⟨rfl,hf⟩
  go_wp2
  go_end0
  exact hf.over hK4
 go_wp2_with fail
 refine hs.mono ?_
 rintro e u5 ⟨rfl,dG⟩
 have hf:=hm _ dG
 clear hm hs
 have hp5:=FN.kept dG
 have ane:=X7.kept dG
 have hK6:=hK4.trans (dn.below (base:=base) (by have:=hS4.box.lt;omega) dG)
 have z0:=hp5.cell 0
 have z1:=ane.cell 0
 clear y0 y1 hS4 FN X7
 go_wp2_with fail
 refine hf.mono ?_
 intro e uf hf
 obtain rfl:=hf.ret
 go_wp2
 go_end0
 exact hf.over hK6
end
section
open Go.RowKit
theorem aau{l:List UInt8}{i j:Nat}{x:Lx}(hi:i<l.length)(h:ng l i=.inr (x,j)):i<j:=by
 unfold ng at h
 dsimp only at h
 split at h
 ·cases h
 split at h
 ·cases h
 split at h
 ·cases h;omega
 ·cases h;omega
theorem O4{l:List UInt8}{i kd ps:Nat}(h:ng l i=.inl (kd,ps)):kd≠0:=by
 unfold ng at h
 dsimp only at h
 split at h
 ·cases h;decide
 split at h
 ·cases h;decide
 split at h
 ·cases h
 ·cases h
theorem agE(r base:Nat)(g:Nat×Nat)(n cap i:Nat)(l:List UInt8)(X:List Lx)(v:Value)(k p:Nat)(w:World)(h:fA w r base g n cap i l X v k p)(hr:r<base)(hb:base≤w.heap.size)(hi:i<l.length)(hX:X.length≤4294967296)(hS:II l) :
  Calls Tryz.prog 220 #[.pointer (some ⟨r,0,none⟩)] w (kU r base g n cap i l X k p w (ng l i)):=by
 have hgd:l.getD i 0=l[i]:=by simp[List.getD_eq_getElem?_getD,hi]
 have hin:i<n:=by have:=h.byte.1;omega
 refine aaq r base g n cap i l X v k p _ w h hr hb hi (ah fun u hu hbu ps pc hp hpc=>?_)
 unfold X6 ng
 rw[hgd]
 dsimp only
 have ho:=hS _ (List.getElem_mem hi)
 rw[if_neg ho.1,if_neg ho.2.1,if_neg ho.2.2.1,if_neg ho.2.2.2,if_neg (by omega:¬ ((l[i]).toNat=92∨(l[i]).toNat=91∨(l[i]).toNat=123∨(l[i]).toNat=46))]
 by_cases c5:(l[i]).toNat=93∨(l[i]).toNat=125∨(l[i]).toNat=10
 ·rw[if_pos c5,if_pos c5];exact agD r base g n cap i l X v k p ps _ u hu hr hp
 rw[if_neg c5,if_neg c5]
 have hs:=agC r base g n cap i l X v k p u hu hr hbu hX hi
 by_cases c6:mZ (l[i]).toNat=0
 ·rw[if_pos c6]
  exact .inr ⟨hs.mono fun e u' h=>by unfold qw at h;rwa[if_pos c6] at h,fun u1 hB=>aap r base g n cap i l X v k p ps pc _ _ u1 (hu.kept hB) hr (by have:=hB.size;omega) (hp.kept hB) (hpc.kept hB) (l[i]).toNat_lt hin hX⟩
 ·rw[if_neg c6]
  exact .inl (hs.mono fun e u' h=>by
   unfold qw at h
   rw[if_neg c6] at h
   exact⟨h.1,rfl,h.2⟩)
end
section
open Go.RowKit
theorem jr{P:Program}{fn:Func}{R:Ending→World→Prop}{a:Act}{w:World}{p q:Tmp}{Ls b2 E2:Nat}{cs2:Array Value}{d2:TypeDesc}{v1:Value}
  (hr:fn.results=#[.tmp p,.cell q Ls]) (hp:a.tmps.getD p undef=v1) (hq:a.tmps.getD q undef=.pointer (some ⟨b2,0,none⟩)) (hb2:Box w b2 cs2 E2)
  (hu2:P.underlying Ls=some d2) (hd2:(match d2 with | .struct _ | .array _ _=>true | _=>false)=true) (hi2:(P.info? Ls).map (·.size)=some cs2.size)
  (hdf:a.defers=[]) (hR:R (.returned (.tuple #[v1,.agg cs2])) w):bodyPost P fn R .ret a w :=
 ⟨hdf,_,by
  have hp':a.tmps[p]?.getD undef=v1:=by simpa using hp
  have hq':a.tmps[q]?.getD undef=.pointer (some ⟨b2,0,none⟩):=by simpa using hq
  simp[results,hr,hp',hq',asAddr,run_loadVar_row w b2 E2 Ls cs2 (0,0) d2 hb2 hu2 hd2 hi2],hR⟩
def adw(w:World)(l:List UInt8)(e:Ending)(w':World):Prop :=
 Below w.heap.size w w'∧match jM l with
  | .inl q=>e=.returned (.tuple #[.slice none 0 0,gQ q.1 q.2])
  | .inr X=>∃ a c,e=.returned (.tuple #[.slice a X.length c,gQ 0 0])∧Own w' w.heap.size 257 8 gJ (.slice a X.length c) X
def measS(r n:Nat)(W:World):Nat:=match W.cell? ⟨r,1,none⟩ with
 | some (.int _ i)=>n - i.toNat
 | _=>0
theorem RV{W:World}{r base:Nat}{g:Nat×Nat}{n cap i:Nat}{l:List UInt8}{X:List Lx}{v:Value}{k p:Nat}(h:fA W r base g n cap i l X v k p):measS r n W=n - i:=by
 unfold measS
 rw[h.cells.2.1]
 simp
def aav(w:World)(g:Nat×Nat)(n cap:Nat)(l:List UInt8)(ANS:Sum (Nat×Nat) (List Lx))(W:World):Prop :=
 ∃ (i f:Nat) (X:List Lx) (a:Option Addr) (c:Nat),fA W (w.heap.size+1) (w.heap.size+1+1) g n cap i l X (.slice a X.length c) 0 0∧Box W w.heap.size #[.int .i64 0,.int .i64 0] 88∧Below w.heap.size w W∧lexFrom l f i X=ANS∧l.length<f+i∧X.length≤i
theorem aaw(g:Nat×Nat)(n cap:Nat)(l:List UInt8)(w:World)(h:ak w (.slice (some ⟨g.1,g.2,none⟩) n cap) 1 bf l)(hg:g.1<w.heap.size)(hS:II l) :
  Calls Tryz.prog 175 #[.slice (some ⟨g.1,g.2,none⟩) n cap] w (adw w l):=by
 have hlen:=h.cellsA.1
 have zk:=ah hS
 clear hS
 have hx0:=Box.new w #[.int .i64 0,.int .i64 0] 88
 by_cases hbig:65536<n
 ·have e1:decide (65536<(n:Int))=true:=by simp;omega
  have hans:jM l=.inl (4,65536):=by unfold jM;rw[if_pos (by omega)]
  have HA:=ah hans
  have c0:=hx0.cell 0
  have c1:=hx0.cell 1
  have f0:=hx0.free 0
  have f1:=hx0.free 1
  clear h hg hans hlen
  go_enter Tryz.func175,Tryz.ntmps175
  go_wp2
  refine jr Tryz.results175 rfl rfl (cs2:=#[.int .i64 4,.int .i64 65536]) (E2:=88) ?_ Tryz.underlying88 rfl (by kernel_rfl) rfl ⟨?_,by rw[HA.out];rfl⟩
  ·first | exact(hx0.set 0 (.int .i64 4)).set 1 (.int .i64 65536) | exact Box.new _ _ _
  ·go_grown
 ·have e1:decide (65536<(n:Int))=false:=by simp;omega
  have hans:jM l=lexFrom l (l.length+1) 0 []:=by unfold jM;rw[if_neg (by omega)]
  obtain⟨ANS,hA⟩:∃ ANS,lexFrom l (l.length+1) 0 []=ANS:=⟨_,rfl⟩
  have hb0:Below w.heap.size w ((w.alloc (.cells #[.int .i64 0,.int .i64 0] 88)).alloc (.cells (spC g n cap 0 (.slice none 0 0) 0 0) 305)):=((Below.refl _ w).alloc (Nat.le_refl _) _).alloc (by simp) _
  have zn:aav w g n cap l ANS ((w.alloc (.cells #[.int .i64 0,.int .i64 0] 88)).alloc (.cells (spC g n cap 0 (.slice none 0 0) 0 0) 305)) :=
   ⟨0,l.length+1,[],none,0,⟨Box.new' (by simp) _ _,h.kept hb0,Own.nil _ _ _ _ _,by omega,by omega⟩,hx0.alloc _,hb0,hA,by omega,Nat.le_refl _⟩
  rw[hA] at hans
  have HA:=ah hans
  unfold spC at zn
  have HL:=ah hlen
  clear hans hA h hx0 hb0 hlen
  go_enter Tryz.func175,Tryz.ntmps175
  go_wp2
  go_loopw [] (fun wr=>aav w g n cap l ANS wr) (fun wr=>measS (w.heap.size+1) n wr)
  case atStart=>exact zn
  case round =>
   clear zn
   obtain⟨i,f,X,a,c,hS,hX0,hB,hlf,hfu,hXl⟩:=hrel
   obtain⟨x0,x1,x2,x3,x4⟩:=hS.cells
   have hsz:=hS.box.lt
   by_cases hlt:i<n
   ·have hil:i<l.length:=by rw[←HL.out];exact hlt
    have ahO:=HL.out
    have hdi:decide ((i:Int)<(n:Int))=true:=decide_eq_true (by omega)
    have hnx:=agE (w.heap.size+1) (w.heap.size+1+1) g n cap i l X _ 0 0 wr hS (by omega) (by omega) hil (by omega) zk.out
    have hup:=fun x j=>@aau l i j x hil
    have hne:=fun kd ps=>@O4 l i kd ps
    obtain⟨f,rfl⟩:∃ f',f=f'+1:=⟨f - 1,by omega⟩
    rw[lexFrom,if_pos hil] at hlf
    have hm0:=RV hS
    cases hlx:ng l i with
    | inl q =>
     rw[hlx] at hnx hlf
     dsimp only at hlf
     subst hlf
     have hq:=hne q.1 q.2 hlx
     have ek:((q.1:Int) != 0)=true:=by simp;omega
     have HN:=ah hnx
     clear hnx hup hne hq ahO hm0
     go_wp2_with fail
     refine HN.out.mono ?_
     rintro e w2 ⟨rfl,⟨a2,c2,hS2⟩,hK2⟩
     obtain⟨y0,y1,y2,y3,y4⟩:=hS2.cells
     have hX2:Box w2 w.heap.size #[.int .i64 0,.int .i64 0] 88:=hK2.cells.box (by show ¬ (_∨_);omega) hX0
     have hB2:Below w.heap.size w w2:=hB.trans (hK2.low.mono (by omega))
     go_wp2_with fail
     have HF:Hid (∀ u,Later w2.drew u→fA u (w.heap.size+1) (w.heap.size+1+1) g n cap i l X (.slice a2 X.length c2) q.1 q.2∧Box u w.heap.size #[.int .i64 0,.int .i64 0] 88∧Below w.heap.size w u):=ah fun u hl=>⟨(hS2.kept (Below.refl _ _).drew).kept hl,hX2.drew.kept hl,(hB2.trans ((Below.refl _ w2).drew.mono hB2.size)).trans (hl.mono hB2.size)⟩
     clear y0 y1 y2 y3 y4 x0 x1 x2 x3 x4 hS2 hX2 hB2 hK2 hS hX0 hB
     refine aH (R:=Later) 3 (by kernel_rfl) ?_
     refine pl [0,1,2] ?_
     repeat
      refine gU ?_ rfl (fun w1 hl=>?_) ?_
      rotate_left
      ·obtain⟨x0,x1,x2,x3,x4⟩:=(HF.out w1 hl).1.cells;go_simp;try with_reducible rfl
      simp only[eA,eB,eC,Act.put,eD,eE,eF]
     refine dI ?_
     refine aW (t:=3) (i:=3) (by kernel_rfl) rfl (fun w1 hl K hK=>?_)
     obtain⟨_,fO,hB3⟩:=HF.out w1 hl
     have r0:=fO.cell 0
     have r1:=fO.cell 1
     have s0:=fO.free 0
     have s1:=fO.free 1
     go_simp
     refine hK.out _ _ (fun h=>absurd rfl h) ?_
     clear hK K r0 r1 s0 s1
     have iw:=(fO.set 0 (.int .i64 q.1)).set 1 (.int .i64 q.2)
     have hB4:=(hB3.setCell (p:=⟨w.heap.size,0,none⟩) (by simp) (.int .i64 q.1)).setCell (p:=⟨w.heap.size,1,none⟩) (by simp) (.int .i64 q.2)
     clear fO hB3 HF hl
     refine aQ (by kernel_rfl) (fun w1 hl=>?_) _
     have Dk:=iw.kept hl
     have dG:=hB4.trans (hl.mono hB4.size)
     go_wp2
     exact jr Tryz.results175 rfl rfl Dk Tryz.underlying88 rfl (by kernel_rfl) rfl ⟨dG,by rw[HA.out];rfl⟩
    | inr q =>
     rw[hlx] at hnx hlf
     dsimp only at hlf
     have hq:=hup q.1 q.2 hlx
     have HN:=ah hnx
     clear hnx hup hne ahO
     go_wp2_with fail
     refine HN.out.mono ?_
     rintro e w2 ⟨rfl,⟨a2,c2,hS2⟩,hK2⟩
     obtain⟨y0,y1,y2,y3,y4⟩:=hS2.cells
     have hX2:Box w2 w.heap.size #[.int .i64 0,.int .i64 0] 88:=hK2.cells.box (by show ¬ (_∨_);omega) hX0
     have hB2:Below w.heap.size w w2:=hB.trans (hK2.low.mono (by omega))
     have hm2:=RV hS2
     go_wp2
     go_roundw
     case rel =>
      exact⟨q.2,f,X++[q.1],a2,c2,hS2,hX2,hB2,hlf,by omega,by rw[List.length_append,List.length_singleton];omega⟩
     case measure=>rw[hm0,hm2];omega
   ·have hdi:decide ((i:Int)<(n:Int))=false:=decide_eq_false (by omega)
    have gB:ANS=.inr X:=by
     rw[←hlf]
     cases f with
     | zero=>rfl
     | succ f=>rw[lexFrom,if_neg (by rw[←HL.out];exact hlt)]
    subst gB
    have c0:=hX0.cell 0
    have c1:=hX0.cell 1
    have f0:=hX0.free 0
    have f1:=hX0.free 1
    have HS:=ah hS
    clear hlf hS
    go_wp2
    have fO:=(hX0.set 0 (.int .i64 0)).set 1 (.int .i64 0)
    exact jr Tryz.results175 rfl rfl fO Tryz.underlying88 rfl (by kernel_rfl) rfl ⟨(hB.setCell (by simp) _).setCell (by simp) _,by rw[HA.out];exact⟨a,c,rfl,((HS.out.out.mono (by omega)).yC hX0 (by decide) 0 _).yC (hX0.set 0 _) (by decide) 1 _⟩⟩
end
section
open Go.RowKit
def qM(k:Int)(a:Option Addr)(cap:Nat):List Vt→Vt
 | [x]=>x
 | l=>.mk k 0 a cap l 0 0
theorem RX(k:Int)(a:Option Addr)(cap:Nat)(l:List Vt):(qM k a cap l).tr=Bl k (l.map Vt.tr):=by
 match l with
 | []=>exact Vt.jI _ _ _ _ _ _ _
 | [x]=>rfl
 | x::y::r=>exact Vt.jI _ _ _ _ _ _ _
theorem Lu(k:Int)(l:List Vt)(a:Option Addr)(cap:Nat)(w:World)(sA:ak w (.slice a l.length cap) 8 Vt.cells l) :
  Calls Tryz.prog 280 #[.int .i64 k,.slice a l.length cap] w (fun e w'=>e=.returned (.agg (qM k a cap l).cells.toArray)∧Below w.heap.size w w'):=by
 by_cases h1:l.length=1
 ·obtain⟨V,rfl⟩:∃ V,l=[V]:=by
   match l,h1 with
   | [V],_=>exact⟨V,rfl⟩
  obtain⟨b,o,c1,c2,c3,c4,c5⟩:=sA.kids
  obtain rfl:=c3 0 (by simp)
  have bB:Below w.heap.size w (w.alloc (.cells bI 151)):=by go_grown
  have e1:=c5 0 (by simp) _ bB
  simp only[List.length_singleton]
  have hbl:=c4 (by simp)
  clear sA c3 c4 c5 h1
  simp only[List.getElem_cons_zero] at e1
  obtain⟨k1,s1,a1,Bd,zh,lo1,hi1⟩:=V
  obtain⟨y0,y1,y2,y3,y4,y5,y6,y7⟩:=qX e1
  simp only[Nat.zero_mul,Nat.add_zero] at y0 y1 y2 y3 y4 y5 y6 y7
  clear e1
  go_enter Tryz.func280,Tryz.ntmps280
  go_wp2
  exact fU Tryz.results280 rfl (cs:=(aC k1 s1 a1 zh.length Bd lo1 hi1).toArray) (Box.new _ _ _) Tryz.underlying151 rfl (by kernel_rfl) rfl ⟨rfl,by go_grown⟩
 ·have g1:(((l.length:Nat):Int)==1)=false:=by rw[beq_eq_false_iff_ne];omega
  have hf:qM k a cap l=.mk k 0 a cap l 0 0:=by
   match l,h1 with
   | [],_=>rfl
   | _::_::_,_=>rfl
  have hz:(Vt.mk k 0 a cap l 0 0).cells=[.int .i64 k,.int .u64 0,.int .u64 0,.int .u64 0,.int .u64 0,.slice a l.length cap,.int .i64 0,.int .i64 0]:=by
   show aC k 0 a l.length cap 0 0=_
   simp only[aC,qQ];rfl
  rw[hf,hz]
  clear sA hf hz h1
  generalize l.length=n at *
  go_enter Tryz.func280,Tryz.ntmps280
  go_wp2
  exact fU Tryz.results280 rfl (cs:=#[.int .i64 k,.int .u64 0,.int .u64 0,.int .u64 0,.int .u64 0,.slice a n cap,.int .i64 0,.int .i64 0]) (Box.new _ _ _) Tryz.underlying151 rfl (by kernel_rfl) rfl ⟨rfl,by go_grown⟩
end
end Go.Proofs.YtbemonecmmnlcaaGreatDoor
