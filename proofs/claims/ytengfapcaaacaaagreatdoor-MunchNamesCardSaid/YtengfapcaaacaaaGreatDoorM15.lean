/- The texts of N15, in few letters (mini.py). -/
import Derived.Test.YtengfapcaaacaaaGreatDoorM14
set_option linter.unusedVariables false
set_option linter.unusedSimpArgs false
set_option maxRecDepth 20000
set_option maxHeartbeats 1600000
namespace Go.Proofs.YtengfapcaaacaaaGreatDoor
section
open Go.RowKit
theorem kN{most:Nat}{l:List UInt8}{p v q:Nat}(h:takeN most l p=some (v,q))(hp:p≤l.length):p<q∧q≤l.length:=by
 unfold takeN at h
 split at h
 ·rename_i hf
  have h1:=Dk (l.drop p)
  rw[List.length_drop] at h1
  have h2:0<iW (l.drop p):=by
   rcases Nat.eq_zero_or_pos (iW (l.drop p)) with h0 | h0
   ·rw[h0] at hf;cases hf
   ·exact h0
  cases hv:qW most 0 ((l.drop p).take (iW (l.drop p))) with
  | none=>rw[hv] at h;cases h
  | some x=>rw[hv] at h;simp only[Option.map_some,Option.some.injEq,Prod.mk.injEq] at h;omega
 ·cases h
structure fD(W:World)(r qB:Nat)(g:Nat×Nat)(n cap i:Nat)(l:List UInt8)(X:List Lx)(v:Value)(k p ps pi E1 j:Nat):Prop where
 sp:bJ W r qB g n cap i l X v k p
 bs:Box W ps #[.pointer (some ⟨r,0,none⟩)] E1
 bi:Box W pi #[.int .i64 j] 3
 ne:ps≠pi
 ls:qB≤ps
 li:qB≤pi
 lr:r<qB
theorem fD.kept{W W':World}{r qB:Nat}{g:Nat×Nat}{n cap i:Nat}{l:List UInt8}{X:List Lx}{v:Value}{k p ps pi E1 j:Nat}(h:fD W r qB g n cap i l X v k p ps pi E1 j)(hb:Below W.heap.size W W'):fD W' r qB g n cap i l X v k p ps pi E1 j :=
 ⟨h.sp.kept hb,h.bs.kept hb,h.bi.kept hb,h.ne,h.ls,h.li,h.lr⟩
theorem fD.move{W:World}{r qB:Nat}{g:Nat×Nat}{n cap i:Nat}{l:List UInt8}{X:List Lx}{v:Value}{k p ps pi E1 j:Nat}(h:fD W r qB g n cap i l X v k p ps pi E1 j)(q:Nat):fD (W.setCell ⟨pi,0,none⟩ (.int .i64 (q:Nat))) r qB g n cap i l X v k p ps pi E1 q :=
 ⟨h.sp.late h.bi (by have:=h.lr;have:=h.li;omega) h.li 0 _,h.bs.other _ _ h.ne,h.bi.set 0 _,h.ne,h.ls,h.li,h.lr⟩
theorem fD.jh{W W':World}{r qB:Nat}{g:Nat×Nat}{n cap i:Nat}{l:List UInt8}{X:List Lx}{v:Value}{k p ps pi E1 j:Nat}(h:fD W r qB g n cap i l X v k p ps pi E1 j)(hb:Below W.heap.size W W'):ay r qB W W':=ay.below (by have:=h.sp.box.lt;omega) hb
def ajL(W:World)(r qB:Nat)(g:Nat×Nat)(n cap i:Nat)(l:List UInt8)(X:List Lx)(v:Value)(k p ps pi E1 j:Nat)(t:Option (Nat×Nat))(e:Ending)(W':World):Prop :=
 match t with
 | some (x,q)=>e=.returned (.tuple #[.int .i64 x,.bool true])∧fD W' r qB g n cap i l X v k p ps pi E1 q∧ay r qB W W'
 | none=>e=.returned (.tuple #[.int .i64 0,.bool false])∧fD W' r qB g n cap i l X v k p ps pi E1 j∧ay r qB W W'
theorem ng(r qB:Nat)(g:Nat×Nat)(n cap i:Nat)(l:List UInt8)(X:List Lx)(v:Value)(k p:Nat)(ps pi E1 j:Nat)(W:World)(h:fD W r qB g n cap i l X v k p ps pi E1 j)(hj:j≤n) :
  Calls Tryz.prog 250 #[.pointer (some ⟨ps,0,none⟩),.pointer (some ⟨pi,0,none⟩)] W (ajL W r qB g n cap i l X v k p ps pi E1 j (takeN 1000 l j)):=by
 have hT:=fun u (hu:fD u r qB g n cap i l X v k p ps pi E1 j)=>acH g.1 g.2 cap n j l u hu.sp.sl hj
 have HF:Hid (∀ u,Later W.drew u→fD u r qB g n cap i l X v k p ps pi E1 j∧ay r qB W u):=ah fun u hl=>⟨(h.kept (Below.refl _ _).drew).kept hl,(h.jh (Below.refl _ _).drew).trans ((h.kept (Below.refl _ _).drew).jh hl)⟩
 cases ht:takeN 1000 l j with
 | none =>
  rw[ht] at hT
  have HT:=ah hT
  clear hT h ht
  go_enter Tryz.func250,Tryz.ntmps250
  go_wp2_with fail
  refine aA (R:=Later) 13 (by kernel_rfl) ?_
  refine pl [0,1,2,3,4] ?_
  repeat
   refine dI ?_ rfl (fun w1 hl=>?_) ?_
   rotate_left
   ·obtain⟨hS,_⟩:=HF.out w1 hl;have y0:=hS.bs.cell 0;have y1:=hS.bi.cell 0;obtain⟨x0,x1,x2,x3,x4⟩:=hS.sp.cells;go_simp;try with_reducible rfl
   simp only[eA,eB,eC,Act.put,eD,eE,eF]
  refine bU ?_
  refine aP (t:=13) (i:=5) (by kernel_rfl) rfl (fun w1 hl K hK=>?_)
  obtain⟨hS,hK2⟩:=HF.out w1 hl
  clear hl HF
  go_simp
  refine(HT.out w1 hS).mono ?_
  rintro e w2 ⟨c,hc,rfl,hB2⟩
  have ec:((c:Int) != 0)=true:=by simp;omega
  refine hK.out _ _ (fun _=>hB2) ?_
  have hS2:=hS.kept hB2
  have hK3:=hK2.trans (hS.jh hB2)
  clear hK K hS hK2 hB2
  refine pl [6,7,8,9,10,11,12] ?_
  repeat
   refine dI ?_ rfl (fun w1 hl=>?_) ?_
   rotate_left
   ·skip;go_simp;try with_reducible rfl
   simp only[eA,eB,eC,Act.put,eD,eE,eF]
  refine bU ?_
  refine aH (by kernel_rfl) (fun w1 hl=>?_) _
  have hS4:=hS2.kept hl
  have hK4:=hK3.trans (hS2.jh hl)
  go_wp2
  go_ret2
  exact⟨rfl,hS4,hK4⟩
 | some q =>
  obtain⟨x,q⟩:=q
  rw[ht] at hT
  have HT:=ah hT
  clear hT h ht
  go_enter Tryz.func250,Tryz.ntmps250
  go_wp2_with fail
  refine aA (R:=Later) 13 (by kernel_rfl) ?_
  refine pl [0,1,2,3,4] ?_
  repeat
   refine dI ?_ rfl (fun w1 hl=>?_) ?_
   rotate_left
   ·obtain⟨hS,_⟩:=HF.out w1 hl;have y0:=hS.bs.cell 0;have y1:=hS.bi.cell 0;obtain⟨x0,x1,x2,x3,x4⟩:=hS.sp.cells;go_simp;try with_reducible rfl
   simp only[eA,eB,eC,Act.put,eD,eE,eF]
  refine bU ?_
  refine aP (t:=13) (i:=5) (by kernel_rfl) rfl (fun w1 hl K hK=>?_)
  obtain⟨hS,hK2⟩:=HF.out w1 hl
  clear hl HF
  go_simp
  refine(HT.out w1 hS).mono ?_
  rintro e w2 ⟨rfl,hB2⟩
  refine hK.out _ _ (fun _=>hB2) ?_
  have hS2:=hS.kept hB2
  have hK3:=hK2.trans (hS.jh hB2)
  clear hK K hS hK2 hB2
  refine pl [6,7,8,9,10,11,12] ?_
  repeat
   refine dI ?_ rfl (fun w1 hl=>?_) ?_
   rotate_left
   ·skip;go_simp;try with_reducible rfl
   simp only[eA,eB,eC,Act.put,eD,eE,eF]
  refine bU ?_
  refine aH (by kernel_rfl) (fun w1 hl=>?_) _
  have hS4:=hS2.kept hl
  have hK4:=hK3.trans (hS2.jh hl)
  have f0:=hS4.bi.free 0
  have c0:=hS4.bi.cell 0
  go_wp2
  go_ret2
  exact⟨rfl,hS4.move q,hK4.trans (ay.late _ hS4.li (by have:=hS4.lr;have:=hS4.li;omega) _)⟩
theorem qZ(r qB:Nat)(g:Nat×Nat)(n cap i:Nat)(l:List UInt8)(X:List Lx)(v:Value)(k p:Nat)(ps pi E1 j:Nat)(c:UInt8)(W:World)(h:fD W r qB g n cap i l X v k p ps pi E1 j) :
  Calls Tryz.prog 252 #[.int .u8 c.toNat,.pointer (some ⟨pi,0,none⟩),.pointer (some ⟨ps,0,none⟩)] W (aY W (.bool (aX l j c))):=by
 obtain⟨hlen,hn63,hbyte⟩:=h.sp.byte
 unfold aX
 rw[←hlen]
 have HF:Hid (∀ u,Later W.drew u→fD u r qB g n cap i l X v k p ps pi E1 j∧Below W.heap.size W u):=ah fun u hl=>⟨(h.kept (Below.refl _ _).drew).kept hl,(Below.refl _ _).drew.trans (Below.mono hl (Nat.le_refl _))⟩
 by_cases h1:j<n
 ·have e1:decide ((j:Int)<(n:Int))=true:=by simp;omega
  have hk:j<l.length:=by omega
  have hgd:l.getD j 0=l[j]:=by simp[List.getD_eq_getElem?_getD,hk]
  rw[hgd,Zp]
  have hby:=fun u (hu:fD u r qB g n cap i l X v k p ps pi E1 j)=>hu.sp.byte.2.2 j hk
  generalize l[j]=x at *
  have yE:=ah hby
  have hq:(decide (j<n)&&((x.toNat:Int)==(c.toNat:Int)))=((x.toNat:Int)==(c.toNat:Int)):=by simp[h1]
  rw[hq]
  have hi2:(0:Int)≤(j:Int):=by omega
  have hi3:(j:Int)<(n:Int):=by omega
  clear hby hgd hq hbyte hlen h
  go_enter Tryz.func252,Tryz.ntmps252
  go_wp2_with fail
  refine aA (R:=Later) 19 (by kernel_rfl) ?_
  refine pl [0,1,2,3,4,5,6,7,8,9,10,11,12,13,14,15,16,17,18] ?_
  repeat
   refine dI ?_ rfl (fun w1 hl=>?_) ?_
   rotate_left
   ·obtain⟨hS,_⟩:=HF.out w1 hl;have y0:=hS.bs.cell 0;have y1:=hS.bi.cell 0;obtain⟨x0,x1,x2,x3,x4⟩:=hS.sp.cells;have c0:=yE.out w1 hS;go_simp;try with_reducible rfl
   simp only[eA,eB,eC,Act.put,eD,eE,eF]
  refine bU ?_
  refine aH (by kernel_rfl) (fun w1 hl=>?_) _
  go_wp2
  go_ret
  exact⟨rfl,(HF.out _ hl).2⟩
 ·have e1:decide ((j:Int)<(n:Int))=false:=by simp;omega
  have hq:(decide (j<n)&&(l.getD j 0==c))=false:=by simp;omega
  rw[hq]
  clear hq hbyte hlen h
  go_enter Tryz.func252,Tryz.ntmps252
  go_wp2_with fail
  refine aA (R:=Later) 19 (by kernel_rfl) ?_
  refine pl [0,1,2,3,4,5,6,7] ?_
  repeat
   refine dI ?_ rfl (fun w1 hl=>?_) ?_
   rotate_left
   ·obtain⟨hS,_⟩:=HF.out w1 hl;have y0:=hS.bs.cell 0;have y1:=hS.bi.cell 0;obtain⟨x0,x1,x2,x3,x4⟩:=hS.sp.cells;go_simp;try with_reducible rfl
   simp only[eA,eB,eC,Act.put,eD,eE,eF]
  refine bU ?_
  refine dK 8 rfl ?_
  simp only[eA,eB,eC,Act.put,eD,eE,eF]
  refine dK 9 rfl ?_
  simp only[eA,eB,eC,Act.put,eD,eE,eF]
  refine dK 10 rfl ?_
  simp only[eA,eB,eC,Act.put,eD,eE,eF]
  refine dK 11 rfl ?_
  simp only[eA,eB,eC,Act.put,eD,eE,eF]
  refine dK 12 rfl ?_
  simp only[eA,eB,eC,Act.put,eD,eE,eF]
  refine dK 13 rfl ?_
  simp only[eA,eB,eC,Act.put,eD,eE,eF]
  refine dK 14 rfl ?_
  simp only[eA,eB,eC,Act.put,eD,eE,eF]
  refine dK 15 rfl ?_
  simp only[eA,eB,eC,Act.put,eD,eE,eF]
  refine dK 16 rfl ?_
  simp only[eA,eB,eC,Act.put,eD,eE,eF]
  refine pl [17,18] ?_
  repeat
   refine dI ?_ rfl (fun w1 hl=>?_) ?_
   rotate_left
   ·skip;go_simp;try with_reducible rfl
   simp only[eA,eB,eC,Act.put,eD,eE,eF]
  refine bU ?_
  refine aH (by kernel_rfl) (fun w1 hl=>?_) _
  go_wp2
  go_ret
  exact⟨rfl,(HF.out _ hl).2⟩
end
section
open Go.RowKit
def fZ(r qB:Nat)(g:Nat×Nat)(n cap i:Nat)(l:List UInt8)(X:List Lx)(k p:Nat)(w:World)(ans:Sum (Nat×Nat) (Lx×Nat))(e:Ending)(w':World):Prop :=
 match ans with
 | .inl q=>mZ r qB g n cap i l X q.1 q.2 w (.tuple #[]) e w'
 | .inr q=>mZ r qB g n cap q.2 l (X++[q.1]) k p w (.tuple #[]) e w'
theorem ajM(r qB:Nat)(g:Nat×Nat)(n cap i:Nat)(l:List UInt8)(X:List Lx)(v:Value)(k p:Nat)(w:World)(h:bJ w r qB g n cap i l X v k p)(hr:r<qB)(hb:qB≤w.heap.size)(hi:i<n)(t1:takeN 1000 l (i+1)=none) :
  Calls Tryz.prog 223 #[.pointer (some ⟨r,0,none⟩)] w (fZ r qB g n cap i l X k p w (.inl (16,i))):=by
 have hn63:=h.byte.2.1
 have hlen:=h.byte.1
 have hw1:IntKind.i64.wrap ((i:Int)+1)=((i+1:Nat):Int):=by rw[IntWalk.i64_in _ (by omega)];omega
 have hP0:fD ((w.alloc (.cells #[.pointer (some ⟨r,0,none⟩)] 302)).alloc (.cells #[.int .i64 ((i+1:Nat):Int)] 3)) r qB g n cap i l X v k p w.heap.size (w.heap.size+1) 302 (i+1) :=
  ⟨(h.kept (aj _ _)).kept (aj _ _),(Box.new _ _ _).alloc _,Box.new' (by simp) _ _,by omega,by omega,by omega,hr⟩
 have hK0:=(ay.below (qB:=qB) (by omega:r≤w.heap.size) (aj w (.cells #[.pointer (some ⟨r,0,none⟩)] 302))).trans (ay.below (r:=r) (qB:=qB) (by simp;omega) (aj (w.alloc (.cells #[.pointer (some ⟨r,0,none⟩)] 302)) (.cells #[.int .i64 ((i+1:Nat):Int)] 3)))
 obtain⟨x0,x1,x2,x3,x4⟩:=(h.kept (aj w (.cells #[.pointer (some ⟨r,0,none⟩)] 302))).cells
 have HP:=ah hP0
 have hnum:=fun j u hu (hj:j≤n)=>ng r qB g n cap i l X v k p w.heap.size (w.heap.size+1) 302 j u hu hj
 have fH:=fun j c u hu=>qZ r qB g n cap i l X v k p w.heap.size (w.heap.size+1) 302 j c u hu
 have hN1:=fun u hu=>hnum (i+1) u hu (by omega)
 rw[t1] at hN1
 have Ag:=ah hN1
 clear hN1
 have hF:=fun u (hu:bJ u r qB g n cap i l X v k p)=>zK r qB g n cap i l X v k p 16 u hu hr
 have HF:=ah hF
 clear hF
 clear hnum fH h hP0
 go_enter Tryz.func223,Tryz.ntmps223
 go_wp2_with fail
 refine(Ag.out _ HP.out).mono ?_
 rintro e u1 ⟨rfl,hP1,hK1⟩
 have uF:=hK0.trans hK1
 have y1:=hP1.bi.cell 0
 have z1:=hP1.bs.cell 0
 have g1:=hP1.bi.free 0
 go_wp2_with fail
 refine(HF.out _ hP1.sp).mono ?_
 rintro e uf ⟨rfl,hS,hKf⟩
 go_wp2
 go_end0
 exact⟨rfl,hS,uF.trans hKf⟩
theorem ajN(r qB:Nat)(g:Nat×Nat)(n cap i:Nat)(l:List UInt8)(X:List Lx)(v:Value)(k p:Nat)(w:World)(h:bJ w r qB g n cap i l X v k p)(hr:r<qB)(hb:qB≤w.heap.size)(hi:i<n)(lo p1:Nat)(t1:takeN 1000 l (i+1)=some (lo,p1))(nO:aX l p1 44=false)(kP:aX l p1 125=false) :
  Calls Tryz.prog 223 #[.pointer (some ⟨r,0,none⟩)] w (fZ r qB g n cap i l X k p w (.inl (16,i))):=by
 have hn63:=h.byte.2.1
 have hlen:=h.byte.1
 have hw1:IntKind.i64.wrap ((i:Int)+1)=((i+1:Nat):Int):=by rw[IntWalk.i64_in _ (by omega)];omega
 have hP0:fD ((w.alloc (.cells #[.pointer (some ⟨r,0,none⟩)] 302)).alloc (.cells #[.int .i64 ((i+1:Nat):Int)] 3)) r qB g n cap i l X v k p w.heap.size (w.heap.size+1) 302 (i+1) :=
  ⟨(h.kept (aj _ _)).kept (aj _ _),(Box.new _ _ _).alloc _,Box.new' (by simp) _ _,by omega,by omega,by omega,hr⟩
 have hK0:=(ay.below (qB:=qB) (by omega:r≤w.heap.size) (aj w (.cells #[.pointer (some ⟨r,0,none⟩)] 302))).trans (ay.below (r:=r) (qB:=qB) (by simp;omega) (aj (w.alloc (.cells #[.pointer (some ⟨r,0,none⟩)] 302)) (.cells #[.int .i64 ((i+1:Nat):Int)] 3)))
 obtain⟨x0,x1,x2,x3,x4⟩:=(h.kept (aj w (.cells #[.pointer (some ⟨r,0,none⟩)] 302))).cells
 have HP:=ah hP0
 have hnum:=fun j u hu (hj:j≤n)=>ng r qB g n cap i l X v k p w.heap.size (w.heap.size+1) 302 j u hu hj
 have fH:=fun j c u hu=>qZ r qB g n cap i l X v k p w.heap.size (w.heap.size+1) 302 j c u hu
 have hle1:=kN t1 (by omega)
 have hN1:=fun u hu=>hnum (i+1) u hu (by omega)
 rw[t1] at hN1
 have Ag:=ah hN1
 clear hN1
 have ni:=fun u hu=>fH p1 44 u hu
 rw[nO] at ni
 have wQ:=ah (show ∀ u,fD u r qB g n cap i l X v k p w.heap.size (w.heap.size+1) 302 (p1)→Calls Tryz.prog 252 #[.int .u8 44,.pointer (some ⟨w.heap.size+1,0,none⟩),.pointer (some ⟨w.heap.size,0,none⟩)] u (aY u (.bool _)) from ni)
 clear ni
 have hN3:=fun u hu=>fH p1 125 u hu
 rw[kP] at hN3
 have HN3:=ah (show ∀ u,fD u r qB g n cap i l X v k p w.heap.size (w.heap.size+1) 302 (p1)→Calls Tryz.prog 252 #[.int .u8 125,.pointer (some ⟨w.heap.size+1,0,none⟩),.pointer (some ⟨w.heap.size,0,none⟩)] u (aY u (.bool _)) from hN3)
 clear hN3
 have hF:=fun u (hu:bJ u r qB g n cap i l X v k p)=>zK r qB g n cap i l X v k p 16 u hu hr
 have HF:=ah hF
 clear hF
 clear hnum fH h hP0
 go_enter Tryz.func223,Tryz.ntmps223
 go_wp2_with fail
 refine(Ag.out _ HP.out).mono ?_
 rintro e u1 ⟨rfl,hP1,hK1⟩
 have uF:=hK0.trans hK1
 have y1:=hP1.bi.cell 0
 have z1:=hP1.bs.cell 0
 have g1:=hP1.bi.free 0
 go_wp2_with fail
 refine(wQ.out _ hP1).mono ?_
 rintro e u2 ⟨rfl,hB2⟩
 have hP2:=hP1.kept hB2
 have xG:=uF.trans (hP1.jh hB2)
 have y2:=hP2.bi.cell 0
 have z2:=hP2.bs.cell 0
 have g2:=hP2.bi.free 0
 go_wp2_with fail
 refine(HN3.out _ hP2).mono ?_
 rintro e u3 ⟨rfl,hB3⟩
 have hP3:=hP2.kept hB3
 have vM:=xG.trans (hP2.jh hB3)
 have y3:=hP3.bi.cell 0
 have z3:=hP3.bs.cell 0
 have g3:=hP3.bi.free 0
 go_wp2_with fail
 refine(HF.out _ hP3.sp).mono ?_
 rintro e uf ⟨rfl,hS,hKf⟩
 go_wp2
 go_end0
 exact⟨rfl,hS,vM.trans hKf⟩
theorem ajO(r qB:Nat)(g:Nat×Nat)(n cap i:Nat)(l:List UInt8)(X:List Lx)(v:Value)(k p:Nat)(w:World)(h:bJ w r qB g n cap i l X v k p)(hr:r<qB)(hb:qB≤w.heap.size)(hi:i<n)(hX:X.length≤4294967296)(lo p1:Nat)(t1:takeN 1000 l (i+1)=some (lo,p1))(nO:aX l p1 44=false)(kP:aX l p1 125=true) :
  Calls Tryz.prog 223 #[.pointer (some ⟨r,0,none⟩)] w (fZ r qB g n cap i l X k p w (.inr (⟨8,i,0,lo,lo⟩,p1+1))):=by
 have hn63:=h.byte.2.1
 have hlen:=h.byte.1
 have hw1:IntKind.i64.wrap ((i:Int)+1)=((i+1:Nat):Int):=by rw[IntWalk.i64_in _ (by omega)];omega
 have hP0:fD ((w.alloc (.cells #[.pointer (some ⟨r,0,none⟩)] 302)).alloc (.cells #[.int .i64 ((i+1:Nat):Int)] 3)) r qB g n cap i l X v k p w.heap.size (w.heap.size+1) 302 (i+1) :=
  ⟨(h.kept (aj _ _)).kept (aj _ _),(Box.new _ _ _).alloc _,Box.new' (by simp) _ _,by omega,by omega,by omega,hr⟩
 have hK0:=(ay.below (qB:=qB) (by omega:r≤w.heap.size) (aj w (.cells #[.pointer (some ⟨r,0,none⟩)] 302))).trans (ay.below (r:=r) (qB:=qB) (by simp;omega) (aj (w.alloc (.cells #[.pointer (some ⟨r,0,none⟩)] 302)) (.cells #[.int .i64 ((i+1:Nat):Int)] 3)))
 obtain⟨x0,x1,x2,x3,x4⟩:=(h.kept (aj w (.cells #[.pointer (some ⟨r,0,none⟩)] 302))).cells
 have HP:=ah hP0
 have hnum:=fun j u hu (hj:j≤n)=>ng r qB g n cap i l X v k p w.heap.size (w.heap.size+1) 302 j u hu hj
 have fH:=fun j c u hu=>qZ r qB g n cap i l X v k p w.heap.size (w.heap.size+1) 302 j c u hu
 have hle1:=kN t1 (by omega)
 have hlt2:=iO kP
 have RH:IntKind.i64.wrap ((p1:Int)+1)=((p1+1:Nat):Int):=by rw[IntWalk.i64_in _ (by omega)];omega
 have hN1:=fun u hu=>hnum (i+1) u hu (by omega)
 rw[t1] at hN1
 have Ag:=ah hN1
 clear hN1
 have ni:=fun u hu=>fH p1 44 u hu
 rw[nO] at ni
 have wQ:=ah (show ∀ u,fD u r qB g n cap i l X v k p w.heap.size (w.heap.size+1) 302 (p1)→Calls Tryz.prog 252 #[.int .u8 44,.pointer (some ⟨w.heap.size+1,0,none⟩),.pointer (some ⟨w.heap.size,0,none⟩)] u (aY u (.bool _)) from ni)
 clear ni
 have hN3:=fun u hu=>fH p1 125 u hu
 rw[kP] at hN3
 have HN3:=ah (show ∀ u,fD u r qB g n cap i l X v k p w.heap.size (w.heap.size+1) 302 (p1)→Calls Tryz.prog 252 #[.int .u8 125,.pointer (some ⟨w.heap.size+1,0,none⟩),.pointer (some ⟨w.heap.size,0,none⟩)] u (aY u (.bool _)) from hN3)
 clear hN3
 have hF:=fun u hu hbu=>H9 r qB g n cap i l X v k p 8 lo lo (p1+1) u hu hr hbu hX
 have HF:=ah hF
 clear hF
 clear hnum fH h hP0
 go_enter Tryz.func223,Tryz.ntmps223
 go_wp2_with fail
 refine(Ag.out _ HP.out).mono ?_
 rintro e u1 ⟨rfl,hP1,hK1⟩
 have uF:=hK0.trans hK1
 have y1:=hP1.bi.cell 0
 have z1:=hP1.bs.cell 0
 have g1:=hP1.bi.free 0
 go_wp2_with fail
 refine(wQ.out _ hP1).mono ?_
 rintro e u2 ⟨rfl,hB2⟩
 have hP2:=hP1.kept hB2
 have xG:=uF.trans (hP1.jh hB2)
 have y2:=hP2.bi.cell 0
 have z2:=hP2.bs.cell 0
 have g2:=hP2.bi.free 0
 go_wp2_with fail
 refine(HN3.out _ hP2).mono ?_
 rintro e u3 ⟨rfl,hB3⟩
 have hP3:=hP2.kept hB3
 have vM:=xG.trans (hP2.jh hB3)
 have y3:=hP3.bi.cell 0
 have z3:=hP3.bs.cell 0
 have g3:=hP3.bi.free 0
 have hsz:=vM.others.size
 go_wp2_with fail
 refine(HF.out _ hP3.sp (by omega)).mono ?_
 rintro e uf ⟨rfl,hS,hKf⟩
 go_wp2
 go_end0
 exact⟨rfl,hS,vM.trans hKf⟩
theorem ajP(r qB:Nat)(g:Nat×Nat)(n cap i:Nat)(l:List UInt8)(X:List Lx)(v:Value)(k p:Nat)(w:World)(h:bJ w r qB g n cap i l X v k p)(hr:r<qB)(hb:qB≤w.heap.size)(hi:i<n)(hX:X.length≤4294967296)(lo p1:Nat)(t1:takeN 1000 l (i+1)=some (lo,p1))(nO:aX l p1 44=true)(kP:aX l (p1+1) 125=true) :
  Calls Tryz.prog 223 #[.pointer (some ⟨r,0,none⟩)] w (fZ r qB g n cap i l X k p w (.inr (⟨8,i,0,lo,-1⟩,p1+2))):=by
 have hn63:=h.byte.2.1
 have hlen:=h.byte.1
 have hw1:IntKind.i64.wrap ((i:Int)+1)=((i+1:Nat):Int):=by rw[IntWalk.i64_in _ (by omega)];omega
 have hP0:fD ((w.alloc (.cells #[.pointer (some ⟨r,0,none⟩)] 302)).alloc (.cells #[.int .i64 ((i+1:Nat):Int)] 3)) r qB g n cap i l X v k p w.heap.size (w.heap.size+1) 302 (i+1) :=
  ⟨(h.kept (aj _ _)).kept (aj _ _),(Box.new _ _ _).alloc _,Box.new' (by simp) _ _,by omega,by omega,by omega,hr⟩
 have hK0:=(ay.below (qB:=qB) (by omega:r≤w.heap.size) (aj w (.cells #[.pointer (some ⟨r,0,none⟩)] 302))).trans (ay.below (r:=r) (qB:=qB) (by simp;omega) (aj (w.alloc (.cells #[.pointer (some ⟨r,0,none⟩)] 302)) (.cells #[.int .i64 ((i+1:Nat):Int)] 3)))
 obtain⟨x0,x1,x2,x3,x4⟩:=(h.kept (aj w (.cells #[.pointer (some ⟨r,0,none⟩)] 302))).cells
 have HP:=ah hP0
 have hnum:=fun j u hu (hj:j≤n)=>ng r qB g n cap i l X v k p w.heap.size (w.heap.size+1) 302 j u hu hj
 have fH:=fun j c u hu=>qZ r qB g n cap i l X v k p w.heap.size (w.heap.size+1) 302 j c u hu
 have hle1:=kN t1 (by omega)
 have hlt1:=iO nO
 have RH:IntKind.i64.wrap ((p1:Int)+1)=((p1+1:Nat):Int):=by rw[IntWalk.i64_in _ (by omega)];omega
 have hlt2:=iO kP
 have hwq:IntKind.i64.wrap (((p1+1:Nat):Int)+1)=((p1+1+1:Nat):Int):=by rw[IntWalk.i64_in _ (by omega)];omega
 have apO:IntKind.i64.wrap ((p1:Int)+1+1)=((p1+1+1:Nat):Int):=by rw[IntWalk.i64_in _ (by omega)];omega
 have hN1:=fun u hu=>hnum (i+1) u hu (by omega)
 rw[t1] at hN1
 have Ag:=ah hN1
 clear hN1
 have ni:=fun u hu=>fH p1 44 u hu
 rw[nO] at ni
 have wQ:=ah (show ∀ u,fD u r qB g n cap i l X v k p w.heap.size (w.heap.size+1) 302 (p1)→Calls Tryz.prog 252 #[.int .u8 44,.pointer (some ⟨w.heap.size+1,0,none⟩),.pointer (some ⟨w.heap.size,0,none⟩)] u (aY u (.bool _)) from ni)
 clear ni
 have vN:=fun u hu=>fH (p1+1) 125 u hu
 rw[kP] at vN
 have KZ:=ah (show ∀ u,fD u r qB g n cap i l X v k p w.heap.size (w.heap.size+1) 302 ((p1+1))→Calls Tryz.prog 252 #[.int .u8 125,.pointer (some ⟨w.heap.size+1,0,none⟩),.pointer (some ⟨w.heap.size,0,none⟩)] u (aY u (.bool _)) from vN)
 clear vN
 have ru:=fun u hu=>fH (p1+1) 125 u hu
 rw[kP] at ru
 have La:=ah (show ∀ u,fD u r qB g n cap i l X v k p w.heap.size (w.heap.size+1) 302 ((p1+1))→Calls Tryz.prog 252 #[.int .u8 125,.pointer (some ⟨w.heap.size+1,0,none⟩),.pointer (some ⟨w.heap.size,0,none⟩)] u (aY u (.bool _)) from ru)
 clear ru
 have hF:=fun u hu hbu=>H9 r qB g n cap i l X v k p 8 lo (-1) ((p1+1)+1) u hu hr hbu hX
 have HF:=ah hF
 clear hF
 clear hnum fH h hP0
 go_enter Tryz.func223,Tryz.ntmps223
 go_wp2_with fail
 refine(Ag.out _ HP.out).mono ?_
 rintro e u1 ⟨rfl,hP1,hK1⟩
 have uF:=hK0.trans hK1
 have y1:=hP1.bi.cell 0
 have z1:=hP1.bs.cell 0
 have g1:=hP1.bi.free 0
 go_wp2_with fail
 refine(wQ.out _ hP1).mono ?_
 rintro e u2 ⟨rfl,hB2⟩
 have hP2:=hP1.kept hB2
 have xG:=uF.trans (hP1.jh hB2)
 have y2:=hP2.bi.cell 0
 have z2:=hP2.bs.cell 0
 have g2:=hP2.bi.free 0
 have hP3:=hP2.move (p1+1)
 have vM:=xG.trans (ay.late (r:=r) (qB:=qB) _ (i:=0) hP2.li (by have:=hP2.lr;have:=hP2.li;omega) (.int .i64 ((p1+1:Nat):Int)))
 have y3:=hP3.bi.cell 0
 have z3:=hP3.bs.cell 0
 go_wp2_with fail
 refine(KZ.out _ hP3).mono ?_
 rintro e u4 ⟨rfl,hB4⟩
 have iQ:=hP3.kept hB4
 have Ed:=vM.trans (hP3.jh hB4)
 have y4:=iQ.bi.cell 0
 have z4:=iQ.bs.cell 0
 have g4:=iQ.bi.free 0
 go_wp2_with fail
 refine(La.out _ iQ).mono ?_
 rintro e u5 ⟨rfl,bF⟩
 have jF:=iQ.kept bF
 have CJ:=Ed.trans (iQ.jh bF)
 have y5:=jF.bi.cell 0
 have z5:=jF.bs.cell 0
 have g5:=jF.bi.free 0
 have hsz:=CJ.others.size
 go_wp2_with fail
 refine(HF.out _ jF.sp (by omega)).mono ?_
 rintro e uf ⟨rfl,hS,hKf⟩
 go_wp2
 go_end0
 exact⟨rfl,hS,CJ.trans hKf⟩
theorem ajQ(r qB:Nat)(g:Nat×Nat)(n cap i:Nat)(l:List UInt8)(X:List Lx)(v:Value)(k p:Nat)(w:World)(h:bJ w r qB g n cap i l X v k p)(hr:r<qB)(hb:qB≤w.heap.size)(hi:i<n)(lo p1:Nat)(t1:takeN 1000 l (i+1)=some (lo,p1))(nO:aX l p1 44=true)(kP:aX l (p1+1) 125=false)(t2:takeN 1000 l (p1+1)=none) :
  Calls Tryz.prog 223 #[.pointer (some ⟨r,0,none⟩)] w (fZ r qB g n cap i l X k p w (.inl (16,i))):=by
 have hn63:=h.byte.2.1
 have hlen:=h.byte.1
 have hw1:IntKind.i64.wrap ((i:Int)+1)=((i+1:Nat):Int):=by rw[IntWalk.i64_in _ (by omega)];omega
 have hP0:fD ((w.alloc (.cells #[.pointer (some ⟨r,0,none⟩)] 302)).alloc (.cells #[.int .i64 ((i+1:Nat):Int)] 3)) r qB g n cap i l X v k p w.heap.size (w.heap.size+1) 302 (i+1) :=
  ⟨(h.kept (aj _ _)).kept (aj _ _),(Box.new _ _ _).alloc _,Box.new' (by simp) _ _,by omega,by omega,by omega,hr⟩
 have hK0:=(ay.below (qB:=qB) (by omega:r≤w.heap.size) (aj w (.cells #[.pointer (some ⟨r,0,none⟩)] 302))).trans (ay.below (r:=r) (qB:=qB) (by simp;omega) (aj (w.alloc (.cells #[.pointer (some ⟨r,0,none⟩)] 302)) (.cells #[.int .i64 ((i+1:Nat):Int)] 3)))
 obtain⟨x0,x1,x2,x3,x4⟩:=(h.kept (aj w (.cells #[.pointer (some ⟨r,0,none⟩)] 302))).cells
 have HP:=ah hP0
 have hnum:=fun j u hu (hj:j≤n)=>ng r qB g n cap i l X v k p w.heap.size (w.heap.size+1) 302 j u hu hj
 have fH:=fun j c u hu=>qZ r qB g n cap i l X v k p w.heap.size (w.heap.size+1) 302 j c u hu
 have hle1:=kN t1 (by omega)
 have hlt1:=iO nO
 have RH:IntKind.i64.wrap ((p1:Int)+1)=((p1+1:Nat):Int):=by rw[IntWalk.i64_in _ (by omega)];omega
 have hN1:=fun u hu=>hnum (i+1) u hu (by omega)
 rw[t1] at hN1
 have Ag:=ah hN1
 clear hN1
 have ni:=fun u hu=>fH p1 44 u hu
 rw[nO] at ni
 have wQ:=ah (show ∀ u,fD u r qB g n cap i l X v k p w.heap.size (w.heap.size+1) 302 (p1)→Calls Tryz.prog 252 #[.int .u8 44,.pointer (some ⟨w.heap.size+1,0,none⟩),.pointer (some ⟨w.heap.size,0,none⟩)] u (aY u (.bool _)) from ni)
 clear ni
 have vN:=fun u hu=>fH (p1+1) 125 u hu
 rw[kP] at vN
 have KZ:=ah (show ∀ u,fD u r qB g n cap i l X v k p w.heap.size (w.heap.size+1) 302 ((p1+1))→Calls Tryz.prog 252 #[.int .u8 125,.pointer (some ⟨w.heap.size+1,0,none⟩),.pointer (some ⟨w.heap.size,0,none⟩)] u (aY u (.bool _)) from vN)
 clear vN
 have ru:=fun u hu=>hnum (p1+1) u hu (by omega)
 rw[t2] at ru
 have La:=ah ru
 clear ru
 have hF:=fun u (hu:bJ u r qB g n cap i l X v k p)=>zK r qB g n cap i l X v k p 16 u hu hr
 have HF:=ah hF
 clear hF
 clear hnum fH h hP0
 go_enter Tryz.func223,Tryz.ntmps223
 go_wp2_with fail
 refine(Ag.out _ HP.out).mono ?_
 rintro e u1 ⟨rfl,hP1,hK1⟩
 have uF:=hK0.trans hK1
 have y1:=hP1.bi.cell 0
 have z1:=hP1.bs.cell 0
 have g1:=hP1.bi.free 0
 go_wp2_with fail
 refine(wQ.out _ hP1).mono ?_
 rintro e u2 ⟨rfl,hB2⟩
 have hP2:=hP1.kept hB2
 have xG:=uF.trans (hP1.jh hB2)
 have y2:=hP2.bi.cell 0
 have z2:=hP2.bs.cell 0
 have g2:=hP2.bi.free 0
 have hP3:=hP2.move (p1+1)
 have vM:=xG.trans (ay.late (r:=r) (qB:=qB) _ (i:=0) hP2.li (by have:=hP2.lr;have:=hP2.li;omega) (.int .i64 ((p1+1:Nat):Int)))
 have y3:=hP3.bi.cell 0
 have z3:=hP3.bs.cell 0
 go_wp2_with fail
 refine(KZ.out _ hP3).mono ?_
 rintro e u4 ⟨rfl,hB4⟩
 have iQ:=hP3.kept hB4
 have Ed:=vM.trans (hP3.jh hB4)
 have y4:=iQ.bi.cell 0
 have z4:=iQ.bs.cell 0
 have g4:=iQ.bi.free 0
 go_wp2_with fail
 refine(La.out _ iQ).mono ?_
 rintro e u5 ⟨rfl,jF,hK5⟩
 have CJ:=Ed.trans hK5
 have y5:=jF.bi.cell 0
 have z5:=jF.bs.cell 0
 have g5:=jF.bi.free 0
 go_wp2_with fail
 refine(HF.out _ jF.sp).mono ?_
 rintro e uf ⟨rfl,hS,hKf⟩
 go_wp2
 go_end0
 exact⟨rfl,hS,CJ.trans hKf⟩
theorem ajR(r qB:Nat)(g:Nat×Nat)(n cap i:Nat)(l:List UInt8)(X:List Lx)(v:Value)(k p:Nat)(w:World)(h:bJ w r qB g n cap i l X v k p)(hr:r<qB)(hb:qB≤w.heap.size)(hi:i<n)(lo p1:Nat)(t1:takeN 1000 l (i+1)=some (lo,p1))(nO:aX l p1 44=true)(kP:aX l (p1+1) 125=false)(hi2 q:Nat)(t2:takeN 1000 l (p1+1)=some (hi2,q))(hq:aX l q 125=false) :
  Calls Tryz.prog 223 #[.pointer (some ⟨r,0,none⟩)] w (fZ r qB g n cap i l X k p w (.inl (16,i))):=by
 have hn63:=h.byte.2.1
 have hlen:=h.byte.1
 have hw1:IntKind.i64.wrap ((i:Int)+1)=((i+1:Nat):Int):=by rw[IntWalk.i64_in _ (by omega)];omega
 have hP0:fD ((w.alloc (.cells #[.pointer (some ⟨r,0,none⟩)] 302)).alloc (.cells #[.int .i64 ((i+1:Nat):Int)] 3)) r qB g n cap i l X v k p w.heap.size (w.heap.size+1) 302 (i+1) :=
  ⟨(h.kept (aj _ _)).kept (aj _ _),(Box.new _ _ _).alloc _,Box.new' (by simp) _ _,by omega,by omega,by omega,hr⟩
 have hK0:=(ay.below (qB:=qB) (by omega:r≤w.heap.size) (aj w (.cells #[.pointer (some ⟨r,0,none⟩)] 302))).trans (ay.below (r:=r) (qB:=qB) (by simp;omega) (aj (w.alloc (.cells #[.pointer (some ⟨r,0,none⟩)] 302)) (.cells #[.int .i64 ((i+1:Nat):Int)] 3)))
 obtain⟨x0,x1,x2,x3,x4⟩:=(h.kept (aj w (.cells #[.pointer (some ⟨r,0,none⟩)] 302))).cells
 have HP:=ah hP0
 have hnum:=fun j u hu (hj:j≤n)=>ng r qB g n cap i l X v k p w.heap.size (w.heap.size+1) 302 j u hu hj
 have fH:=fun j c u hu=>qZ r qB g n cap i l X v k p w.heap.size (w.heap.size+1) 302 j c u hu
 have hle1:=kN t1 (by omega)
 have hlt1:=iO nO
 have RH:IntKind.i64.wrap ((p1:Int)+1)=((p1+1:Nat):Int):=by rw[IntWalk.i64_in _ (by omega)];omega
 have hle2:=kN t2 (by omega)
 have hN1:=fun u hu=>hnum (i+1) u hu (by omega)
 rw[t1] at hN1
 have Ag:=ah hN1
 clear hN1
 have ni:=fun u hu=>fH p1 44 u hu
 rw[nO] at ni
 have wQ:=ah (show ∀ u,fD u r qB g n cap i l X v k p w.heap.size (w.heap.size+1) 302 (p1)→Calls Tryz.prog 252 #[.int .u8 44,.pointer (some ⟨w.heap.size+1,0,none⟩),.pointer (some ⟨w.heap.size,0,none⟩)] u (aY u (.bool _)) from ni)
 clear ni
 have vN:=fun u hu=>fH (p1+1) 125 u hu
 rw[kP] at vN
 have KZ:=ah (show ∀ u,fD u r qB g n cap i l X v k p w.heap.size (w.heap.size+1) 302 ((p1+1))→Calls Tryz.prog 252 #[.int .u8 125,.pointer (some ⟨w.heap.size+1,0,none⟩),.pointer (some ⟨w.heap.size,0,none⟩)] u (aY u (.bool _)) from vN)
 clear vN
 have ru:=fun u hu=>hnum (p1+1) u hu (by omega)
 rw[t2] at ru
 have La:=ah ru
 clear ru
 have FZ:=fun u hu=>fH q 125 u hu
 rw[hq] at FZ
 have Lc:=ah (show ∀ u,fD u r qB g n cap i l X v k p w.heap.size (w.heap.size+1) 302 (q)→Calls Tryz.prog 252 #[.int .u8 125,.pointer (some ⟨w.heap.size+1,0,none⟩),.pointer (some ⟨w.heap.size,0,none⟩)] u (aY u (.bool _)) from FZ)
 clear FZ
 have hF:=fun u (hu:bJ u r qB g n cap i l X v k p)=>zK r qB g n cap i l X v k p 16 u hu hr
 have HF:=ah hF
 clear hF
 clear hnum fH h hP0
 go_enter Tryz.func223,Tryz.ntmps223
 go_wp2_with fail
 refine(Ag.out _ HP.out).mono ?_
 rintro e u1 ⟨rfl,hP1,hK1⟩
 have uF:=hK0.trans hK1
 have y1:=hP1.bi.cell 0
 have z1:=hP1.bs.cell 0
 have g1:=hP1.bi.free 0
 go_wp2_with fail
 refine(wQ.out _ hP1).mono ?_
 rintro e u2 ⟨rfl,hB2⟩
 have hP2:=hP1.kept hB2
 have xG:=uF.trans (hP1.jh hB2)
 have y2:=hP2.bi.cell 0
 have z2:=hP2.bs.cell 0
 have g2:=hP2.bi.free 0
 have hP3:=hP2.move (p1+1)
 have vM:=xG.trans (ay.late (r:=r) (qB:=qB) _ (i:=0) hP2.li (by have:=hP2.lr;have:=hP2.li;omega) (.int .i64 ((p1+1:Nat):Int)))
 have y3:=hP3.bi.cell 0
 have z3:=hP3.bs.cell 0
 go_wp2_with fail
 refine(KZ.out _ hP3).mono ?_
 rintro e u4 ⟨rfl,hB4⟩
 have iQ:=hP3.kept hB4
 have Ed:=vM.trans (hP3.jh hB4)
 have y4:=iQ.bi.cell 0
 have z4:=iQ.bs.cell 0
 have g4:=iQ.bi.free 0
 go_wp2_with fail
 refine(La.out _ iQ).mono ?_
 rintro e u5 ⟨rfl,jF,hK5⟩
 have CJ:=Ed.trans hK5
 have y5:=jF.bi.cell 0
 have z5:=jF.bs.cell 0
 have g5:=jF.bi.free 0
 go_wp2_with fail
 refine(Lc.out _ jF).mono ?_
 rintro e u6 ⟨rfl,kH⟩
 have oQ:=jF.kept kH
 have NI:=CJ.trans (jF.jh kH)
 have y6:=oQ.bi.cell 0
 have z6:=oQ.bs.cell 0
 have g6:=oQ.bi.free 0
 go_wp2_with fail
 refine(HF.out _ oQ.sp).mono ?_
 rintro e uf ⟨rfl,hS,hKf⟩
 go_wp2
 go_end0
 exact⟨rfl,hS,NI.trans hKf⟩
theorem ajS(r qB:Nat)(g:Nat×Nat)(n cap i:Nat)(l:List UInt8)(X:List Lx)(v:Value)(k p:Nat)(w:World)(h:bJ w r qB g n cap i l X v k p)(hr:r<qB)(hb:qB≤w.heap.size)(hi:i<n)(lo p1:Nat)(t1:takeN 1000 l (i+1)=some (lo,p1))(nO:aX l p1 44=true)(kP:aX l (p1+1) 125=false)(hi2 q:Nat)(t2:takeN 1000 l (p1+1)=some (hi2,q))(hq:aX l q 125=true)(hlt:hi2<lo) :
  Calls Tryz.prog 223 #[.pointer (some ⟨r,0,none⟩)] w (fZ r qB g n cap i l X k p w (.inl (15,i))):=by
 have hn63:=h.byte.2.1
 have hlen:=h.byte.1
 have hw1:IntKind.i64.wrap ((i:Int)+1)=((i+1:Nat):Int):=by rw[IntWalk.i64_in _ (by omega)];omega
 have hP0:fD ((w.alloc (.cells #[.pointer (some ⟨r,0,none⟩)] 302)).alloc (.cells #[.int .i64 ((i+1:Nat):Int)] 3)) r qB g n cap i l X v k p w.heap.size (w.heap.size+1) 302 (i+1) :=
  ⟨(h.kept (aj _ _)).kept (aj _ _),(Box.new _ _ _).alloc _,Box.new' (by simp) _ _,by omega,by omega,by omega,hr⟩
 have hK0:=(ay.below (qB:=qB) (by omega:r≤w.heap.size) (aj w (.cells #[.pointer (some ⟨r,0,none⟩)] 302))).trans (ay.below (r:=r) (qB:=qB) (by simp;omega) (aj (w.alloc (.cells #[.pointer (some ⟨r,0,none⟩)] 302)) (.cells #[.int .i64 ((i+1:Nat):Int)] 3)))
 obtain⟨x0,x1,x2,x3,x4⟩:=(h.kept (aj w (.cells #[.pointer (some ⟨r,0,none⟩)] 302))).cells
 have HP:=ah hP0
 have hnum:=fun j u hu (hj:j≤n)=>ng r qB g n cap i l X v k p w.heap.size (w.heap.size+1) 302 j u hu hj
 have fH:=fun j c u hu=>qZ r qB g n cap i l X v k p w.heap.size (w.heap.size+1) 302 j c u hu
 have hle1:=kN t1 (by omega)
 have hlt1:=iO nO
 have RH:IntKind.i64.wrap ((p1:Int)+1)=((p1+1:Nat):Int):=by rw[IntWalk.i64_in _ (by omega)];omega
 have hle2:=kN t2 (by omega)
 have ec:decide ((hi2:Int)<(lo:Int))=true:=by simp;omega
 have hN1:=fun u hu=>hnum (i+1) u hu (by omega)
 rw[t1] at hN1
 have Ag:=ah hN1
 clear hN1
 have ni:=fun u hu=>fH p1 44 u hu
 rw[nO] at ni
 have wQ:=ah (show ∀ u,fD u r qB g n cap i l X v k p w.heap.size (w.heap.size+1) 302 (p1)→Calls Tryz.prog 252 #[.int .u8 44,.pointer (some ⟨w.heap.size+1,0,none⟩),.pointer (some ⟨w.heap.size,0,none⟩)] u (aY u (.bool _)) from ni)
 clear ni
 have vN:=fun u hu=>fH (p1+1) 125 u hu
 rw[kP] at vN
 have KZ:=ah (show ∀ u,fD u r qB g n cap i l X v k p w.heap.size (w.heap.size+1) 302 ((p1+1))→Calls Tryz.prog 252 #[.int .u8 125,.pointer (some ⟨w.heap.size+1,0,none⟩),.pointer (some ⟨w.heap.size,0,none⟩)] u (aY u (.bool _)) from vN)
 clear vN
 have ru:=fun u hu=>hnum (p1+1) u hu (by omega)
 rw[t2] at ru
 have La:=ah ru
 clear ru
 have FZ:=fun u hu=>fH q 125 u hu
 rw[hq] at FZ
 have Lc:=ah (show ∀ u,fD u r qB g n cap i l X v k p w.heap.size (w.heap.size+1) 302 (q)→Calls Tryz.prog 252 #[.int .u8 125,.pointer (some ⟨w.heap.size+1,0,none⟩),.pointer (some ⟨w.heap.size,0,none⟩)] u (aY u (.bool _)) from FZ)
 clear FZ
 have hF:=fun u (hu:bJ u r qB g n cap i l X v k p)=>zK r qB g n cap i l X v k p 15 u hu hr
 have HF:=ah hF
 clear hF
 clear hnum fH h hP0
 go_enter Tryz.func223,Tryz.ntmps223
 go_wp2_with fail
 refine(Ag.out _ HP.out).mono ?_
 rintro e u1 ⟨rfl,hP1,hK1⟩
 have uF:=hK0.trans hK1
 have y1:=hP1.bi.cell 0
 have z1:=hP1.bs.cell 0
 have g1:=hP1.bi.free 0
 go_wp2_with fail
 refine(wQ.out _ hP1).mono ?_
 rintro e u2 ⟨rfl,hB2⟩
 have hP2:=hP1.kept hB2
 have xG:=uF.trans (hP1.jh hB2)
 have y2:=hP2.bi.cell 0
 have z2:=hP2.bs.cell 0
 have g2:=hP2.bi.free 0
 have hP3:=hP2.move (p1+1)
 have vM:=xG.trans (ay.late (r:=r) (qB:=qB) _ (i:=0) hP2.li (by have:=hP2.lr;have:=hP2.li;omega) (.int .i64 ((p1+1:Nat):Int)))
 have y3:=hP3.bi.cell 0
 have z3:=hP3.bs.cell 0
 go_wp2_with fail
 refine(KZ.out _ hP3).mono ?_
 rintro e u4 ⟨rfl,hB4⟩
 have iQ:=hP3.kept hB4
 have Ed:=vM.trans (hP3.jh hB4)
 have y4:=iQ.bi.cell 0
 have z4:=iQ.bs.cell 0
 have g4:=iQ.bi.free 0
 go_wp2_with fail
 refine(La.out _ iQ).mono ?_
 rintro e u5 ⟨rfl,jF,hK5⟩
 have CJ:=Ed.trans hK5
 have y5:=jF.bi.cell 0
 have z5:=jF.bs.cell 0
 have g5:=jF.bi.free 0
 go_wp2_with fail
 refine(Lc.out _ jF).mono ?_
 rintro e u6 ⟨rfl,kH⟩
 have oQ:=jF.kept kH
 have NI:=CJ.trans (jF.jh kH)
 have y6:=oQ.bi.cell 0
 have z6:=oQ.bs.cell 0
 have g6:=oQ.bi.free 0
 go_wp2_with fail
 refine(HF.out _ oQ.sp).mono ?_
 rintro e uf ⟨rfl,hS,hKf⟩
 go_wp2
 go_end0
 exact⟨rfl,hS,NI.trans hKf⟩
theorem ajT(r qB:Nat)(g:Nat×Nat)(n cap i:Nat)(l:List UInt8)(X:List Lx)(v:Value)(k p:Nat)(w:World)(h:bJ w r qB g n cap i l X v k p)(hr:r<qB)(hb:qB≤w.heap.size)(hi:i<n)(hX:X.length≤4294967296)(lo p1:Nat)(t1:takeN 1000 l (i+1)=some (lo,p1))(nO:aX l p1 44=true)(kP:aX l (p1+1) 125=false)(hi2 q:Nat)(t2:takeN 1000 l (p1+1)=some (hi2,q))(hq:aX l q 125=true)(hlt:¬ hi2<lo) :
  Calls Tryz.prog 223 #[.pointer (some ⟨r,0,none⟩)] w (fZ r qB g n cap i l X k p w (.inr (⟨8,i,0,lo,hi2⟩,q+1))):=by
 have hn63:=h.byte.2.1
 have hlen:=h.byte.1
 have hw1:IntKind.i64.wrap ((i:Int)+1)=((i+1:Nat):Int):=by rw[IntWalk.i64_in _ (by omega)];omega
 have hP0:fD ((w.alloc (.cells #[.pointer (some ⟨r,0,none⟩)] 302)).alloc (.cells #[.int .i64 ((i+1:Nat):Int)] 3)) r qB g n cap i l X v k p w.heap.size (w.heap.size+1) 302 (i+1) :=
  ⟨(h.kept (aj _ _)).kept (aj _ _),(Box.new _ _ _).alloc _,Box.new' (by simp) _ _,by omega,by omega,by omega,hr⟩
 have hK0:=(ay.below (qB:=qB) (by omega:r≤w.heap.size) (aj w (.cells #[.pointer (some ⟨r,0,none⟩)] 302))).trans (ay.below (r:=r) (qB:=qB) (by simp;omega) (aj (w.alloc (.cells #[.pointer (some ⟨r,0,none⟩)] 302)) (.cells #[.int .i64 ((i+1:Nat):Int)] 3)))
 obtain⟨x0,x1,x2,x3,x4⟩:=(h.kept (aj w (.cells #[.pointer (some ⟨r,0,none⟩)] 302))).cells
 have HP:=ah hP0
 have hnum:=fun j u hu (hj:j≤n)=>ng r qB g n cap i l X v k p w.heap.size (w.heap.size+1) 302 j u hu hj
 have fH:=fun j c u hu=>qZ r qB g n cap i l X v k p w.heap.size (w.heap.size+1) 302 j c u hu
 have hle1:=kN t1 (by omega)
 have hlt1:=iO nO
 have RH:IntKind.i64.wrap ((p1:Int)+1)=((p1+1:Nat):Int):=by rw[IntWalk.i64_in _ (by omega)];omega
 have hle2:=kN t2 (by omega)
 have hlt3:=iO hq
 have ec:decide ((hi2:Int)<(lo:Int))=false:=by simp;omega
 have hwq:IntKind.i64.wrap ((q:Int)+1)=((q+1:Nat):Int):=by rw[IntWalk.i64_in _ (by omega)];omega
 have hN1:=fun u hu=>hnum (i+1) u hu (by omega)
 rw[t1] at hN1
 have Ag:=ah hN1
 clear hN1
 have ni:=fun u hu=>fH p1 44 u hu
 rw[nO] at ni
 have wQ:=ah (show ∀ u,fD u r qB g n cap i l X v k p w.heap.size (w.heap.size+1) 302 (p1)→Calls Tryz.prog 252 #[.int .u8 44,.pointer (some ⟨w.heap.size+1,0,none⟩),.pointer (some ⟨w.heap.size,0,none⟩)] u (aY u (.bool _)) from ni)
 clear ni
 have vN:=fun u hu=>fH (p1+1) 125 u hu
 rw[kP] at vN
 have KZ:=ah (show ∀ u,fD u r qB g n cap i l X v k p w.heap.size (w.heap.size+1) 302 ((p1+1))→Calls Tryz.prog 252 #[.int .u8 125,.pointer (some ⟨w.heap.size+1,0,none⟩),.pointer (some ⟨w.heap.size,0,none⟩)] u (aY u (.bool _)) from vN)
 clear vN
 have ru:=fun u hu=>hnum (p1+1) u hu (by omega)
 rw[t2] at ru
 have La:=ah ru
 clear ru
 have FZ:=fun u hu=>fH q 125 u hu
 rw[hq] at FZ
 have Lc:=ah (show ∀ u,fD u r qB g n cap i l X v k p w.heap.size (w.heap.size+1) 302 (q)→Calls Tryz.prog 252 #[.int .u8 125,.pointer (some ⟨w.heap.size+1,0,none⟩),.pointer (some ⟨w.heap.size,0,none⟩)] u (aY u (.bool _)) from FZ)
 clear FZ
 have hF:=fun u hu hbu=>H9 r qB g n cap i l X v k p 8 lo hi2 (q+1) u hu hr hbu hX
 have HF:=ah hF
 clear hF
 clear hnum fH h hP0
 go_enter Tryz.func223,Tryz.ntmps223
 go_wp2_with fail
 refine(Ag.out _ HP.out).mono ?_
 rintro e u1 ⟨rfl,hP1,hK1⟩
 have uF:=hK0.trans hK1
 have y1:=hP1.bi.cell 0
 have z1:=hP1.bs.cell 0
 have g1:=hP1.bi.free 0
 go_wp2_with fail
 refine(wQ.out _ hP1).mono ?_
 rintro e u2 ⟨rfl,hB2⟩
 have hP2:=hP1.kept hB2
 have xG:=uF.trans (hP1.jh hB2)
 have y2:=hP2.bi.cell 0
 have z2:=hP2.bs.cell 0
 have g2:=hP2.bi.free 0
 have hP3:=hP2.move (p1+1)
 have vM:=xG.trans (ay.late (r:=r) (qB:=qB) _ (i:=0) hP2.li (by have:=hP2.lr;have:=hP2.li;omega) (.int .i64 ((p1+1:Nat):Int)))
 have y3:=hP3.bi.cell 0
 have z3:=hP3.bs.cell 0
 go_wp2_with fail
 refine(KZ.out _ hP3).mono ?_
 rintro e u4 ⟨rfl,hB4⟩
 have iQ:=hP3.kept hB4
 have Ed:=vM.trans (hP3.jh hB4)
 have y4:=iQ.bi.cell 0
 have z4:=iQ.bs.cell 0
 have g4:=iQ.bi.free 0
 go_wp2_with fail
 refine(La.out _ iQ).mono ?_
 rintro e u5 ⟨rfl,jF,hK5⟩
 have CJ:=Ed.trans hK5
 have y5:=jF.bi.cell 0
 have z5:=jF.bs.cell 0
 have g5:=jF.bi.free 0
 go_wp2_with fail
 refine(Lc.out _ jF).mono ?_
 rintro e u6 ⟨rfl,kH⟩
 have oQ:=jF.kept kH
 have NI:=CJ.trans (jF.jh kH)
 have y6:=oQ.bi.cell 0
 have z6:=oQ.bs.cell 0
 have g6:=oQ.bi.free 0
 have hsz:=NI.others.size
 go_wp2_with fail
 refine(HF.out _ oQ.sp (by omega)).mono ?_
 rintro e uf ⟨rfl,hS,hKf⟩
 go_wp2
 go_end0
 exact⟨rfl,hS,NI.trans hKf⟩
theorem ag8(r qB:Nat)(g:Nat×Nat)(n cap i:Nat)(l:List UInt8)(X:List Lx)(v:Value)(k p:Nat)(w:World)(h:bJ w r qB g n cap i l X v k p)(hr:r<qB)(hb:qB≤w.heap.size)(hi:i<n)(hX:X.length≤4294967296) :
  Calls Tryz.prog 223 #[.pointer (some ⟨r,0,none⟩)] w (fZ r qB g n cap i l X k p w (match yQ l i with | .inl q=>.inl q | .inr (q,j)=>.inr (⟨8,i,0,q.1,q.2⟩,j))):=by
 unfold yQ
 cases t1:takeN 1000 l (i+1) with
 | none=>exact ajM r qB g n cap i l X v k p w h hr hb hi t1
 | some q1 =>
  obtain⟨lo,p1⟩:=q1
  dsimp only
  cases nO:aX l p1 44 with
  | false =>
   rw[if_neg (by simp)]
   cases kP:aX l p1 125 with
   | false=>exact ajN r qB g n cap i l X v k p w h hr hb hi lo p1 t1 nO kP
   | true=>exact ajO r qB g n cap i l X v k p w h hr hb hi hX lo p1 t1 nO kP
  | true =>
   rw[if_pos rfl]
   cases kP:aX l (p1+1) 125 with
   | true=>exact ajP r qB g n cap i l X v k p w h hr hb hi hX lo p1 t1 nO kP
   | false =>
    rw[if_neg (by simp)]
    cases t2:takeN 1000 l (p1+1) with
    | none=>exact ajQ r qB g n cap i l X v k p w h hr hb hi lo p1 t1 nO kP t2
    | some q2 =>
     obtain⟨hi2,q⟩:=q2
     dsimp only
     cases hq:aX l q 125 with
     | false=>exact ajR r qB g n cap i l X v k p w h hr hb hi lo p1 t1 nO kP hi2 q t2 hq
     | true =>
      rw[if_pos rfl]
      by_cases hlt:hi2<lo
      ·rw[if_pos hlt];exact ajS r qB g n cap i l X v k p w h hr hb hi lo p1 t1 nO kP hi2 q t2 hq hlt
      ·rw[if_neg hlt];exact ajT r qB g n cap i l X v k p w h hr hb hi hX lo p1 t1 nO kP hi2 q t2 hq hlt
end
end Go.Proofs.YtengfapcaaacaaaGreatDoor
