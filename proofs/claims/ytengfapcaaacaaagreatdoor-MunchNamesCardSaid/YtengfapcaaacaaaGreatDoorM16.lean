/- The texts of N16, in few letters (mini.py). -/
import Derived.Test.YtengfapcaaacaaaGreatDoorM15
set_option linter.unusedVariables false
set_option linter.unusedSimpArgs false
set_option maxRecDepth 20000
set_option maxHeartbeats 3200000
namespace Go.Proofs.YtengfapcaaacaaaGreatDoor
section
open Go.RowKit
theorem fZ.ret{r qB:Nat}{g:Nat×Nat}{n cap i:Nat}{l:List UInt8}{X:List Lx}{k p:Nat}{w w':World}{ans:Sum (Nat×Nat) (Lx×Nat)}{e:Ending}(h:fZ r qB g n cap i l X k p w ans e w'):e=.returned (.tuple #[]):=by
 cases ans with
 | inl q=>exact h.1
 | inr q=>exact h.1
theorem fZ.over{r qB:Nat}{g:Nat×Nat}{n cap i:Nat}{l:List UInt8}{X:List Lx}{k p:Nat}{w w1 w':World}{ans:Sum (Nat×Nat) (Lx×Nat)}{e:Ending}(ho:ay r qB w w1)(h:fZ r qB g n cap i l X k p w1 ans e w'):fZ r qB g n cap i l X k p w ans e w':=by
 cases ans with
 | inl q=>exact mZ.over ho h
 | inr q=>exact mZ.over ho h
theorem acI(r qB:Nat)(g:Nat×Nat)(n cap i:Nat)(l:List UInt8)(X:List Lx)(v:Value)(k p:Nat)(ps E1:Nat)(w:World)(h:bJ w r qB g n cap i l X v k p)(hr:r<qB)(hb:qB≤w.heap.size)(hps:Box w ps #[.pointer (some ⟨r,0,none⟩)] E1)(hi:i<n)(hX:X.length≤4294967296) :
  Calls Tryz.prog 224 #[.pointer (some ⟨ps,0,none⟩)] w (fZ r qB g n cap i l X k p w (.inr (⟨1,i,Ju,0,0⟩,i+1))):=by
 have hn63:=h.byte.2.1
 have hw1:IntKind.i64.wrap ((i:Int)+1)=((i+1:Nat):Int):=by rw[IntWalk.i64_in _ (by omega)];omega
 have hset:=fun u hu hbu=>KW r qB g n cap i l X v k p Ju (i+1) u hu hr hbu hX
 have yR:=ah hset
 have alQ:=ah afN
 have HF:Hid (∀ u,Later w.drew u→bJ u r qB g n cap i l X v k p∧Box u ps #[.pointer (some ⟨r,0,none⟩)] E1∧ay r qB w u):=ah fun u hl=>⟨(h.kept (Below.refl _ _).drew).kept hl,hps.drew.kept hl,(ay.below (qB:=qB) (by omega) (Below.refl w.heap.size w).drew).trans (ay.below (by show r≤w.heap.size;omega) hl)⟩
 clear hset h hps
 generalize Ju=d at *
 go_enter Tryz.func224,Tryz.ntmps224
 go_wp2_with fail
 refine aA (R:=Later) 7 (by kernel_rfl) ?_
 refine pl [0,2,3,4,5,6] ?_
 repeat
  refine dI ?_ rfl (fun w1 hl=>?_) ?_
  rotate_left
  ·obtain⟨hS,hp,_⟩:=HF.out w1 hl;have y0:=hp.cell 0;obtain⟨x0,x1,x2,x3,x4⟩:=hS.cells;go_simp;try with_reducible rfl
  simp only[eA,eB,eC,Act.put,eD,eE,eF]
 refine bU ?_
 refine EI 1 ?_ ?_ ?_ rfl (fun w1=>?_) (fun w1 hl=>?_) ?_
 rotate_left 4
 ·exact alQ.out w1
 rotate_left
 ·go_simp
 simp only[eA,eB,eC,Act.put,eD,eE,eF]
 refine aP (t:=7) (i:=7) (by kernel_rfl) rfl (fun w1 hl K hK=>?_)
 obtain⟨hS,_,hK2⟩:=HF.out w1 hl
 have hsz:=hK2.others.size
 go_simp
 refine(yR.out _ hS (by omega)).mono ?_
 rintro e w2 ⟨rfl,hS3,hK3⟩
 refine hK.out _ _ (fun h=>absurd rfl h) ?_
 clear hK K hl HF hS
 obtain⟨a,c,hS3⟩:=hS3
 have wR:=hK2.trans hK3
 refine aH (by kernel_rfl) (fun w1 hl=>?_) _
 have hS4:=hS3.kept hl
 go_wp2
 go_end0
 exact⟨rfl,⟨a,c,hS4⟩,wR.trans (ay.below (by have:=hS3.box.lt;omega) hl)⟩
theorem afO(r qB:Nat)(g:Nat×Nat)(n cap i:Nat)(l:List UInt8)(X:List Lx)(v:Value)(k p:Nat)(ps E1:Nat)(w:World)(h:bJ w r qB g n cap i l X v k p)(hr:r<qB)(hps:Box w ps #[.pointer (some ⟨r,0,none⟩)] E1) :
  Calls Tryz.prog 227 #[.pointer (some ⟨ps,0,none⟩)] w (fZ r qB g n cap i l X k p w (.inl (3,i))):=by
 have y0:=hps.cell 0
 have hf:=zK r qB g n cap i l X v k p 3 w h hr
 have HF:=ah hf
 clear hf h hps
 go_enter Tryz.func227,Tryz.ntmps227
 go_wp2_with fail
 refine HF.out.mono ?_
 rintro e uf ⟨rfl,hS,hKf⟩
 go_wp2
 go_end0
 exact⟨rfl,hS,hKf⟩
theorem ZB(r qB:Nat)(g:Nat×Nat)(n cap i:Nat)(l:List UInt8)(X:List Lx)(v:Value)(k p:Nat)(ps pc E1 x:Nat)(w:World)(h:bJ w r qB g n cap i l X v k p)(hr:r<qB)(hb:qB≤w.heap.size)(hps:Box w ps #[.pointer (some ⟨r,0,none⟩)] E1)(hpc:Box w pc #[.int .u8 x] 5)(hx:x<256)(hi:i<n)(hX:X.length≤4294967296) :
  Calls Tryz.prog 230 #[.pointer (some ⟨ps,0,none⟩),.pointer (some ⟨pc,0,none⟩)] w (fZ r qB g n cap i l X k p w (.inr (⟨1,i,nM [x],0,0⟩,i+1))):=by
 have hn63:=h.byte.2.1
 have hw1:IntKind.i64.wrap ((i:Int)+1)=((i+1:Nat):Int):=by rw[IntWalk.i64_in _ (by omega)];omega
 have hset:=fun u hu hbu=>KW r qB g n cap i l X v k p (nM [x]) (i+1) u hu hr hbu hX
 have hof:=fun b w1 h=>Hw (some ⟨b,0,none⟩) 1 [x] w1 h (by simpa using hx)
 have yR:=ah hset
 have EK:=ah hof
 have HF:Hid (∀ u,Later w.drew u→bJ u r qB g n cap i l X v k p∧Box u ps #[.pointer (some ⟨r,0,none⟩)] E1∧Box u pc #[.int .u8 x] 5∧ay r qB w u):=ah fun u hl=>⟨(h.kept (Below.refl _ _).drew).kept hl,hps.drew.kept hl,hpc.drew.kept hl,(ay.below (qB:=qB) (by omega) (Below.refl w.heap.size w).drew).trans (ay.below (by show r≤w.heap.size;omega) hl)⟩
 clear hset hof h hps hpc
 generalize nM [x]=d at *
 go_enter Tryz.func230,Tryz.ntmps230
 go_wp2_with fail
 refine aA (R:=Later) 9 (by kernel_rfl) ?_
 refine pl [0,1,4,5,6,7,8] ?_
 repeat
  refine dI ?_ rfl (fun w1 hl=>?_) ?_
  rotate_left
  ·obtain⟨hS,hp,hc,_⟩:=HF.out w1 hl;have y0:=hp.cell 0;have y1:=hc.cell 0;obtain⟨x0,x1,x2,x3,x4⟩:=hS.cells;go_simp;try with_reducible rfl
  simp only[eA,eB,eC,Act.put,eD,eE,eF]
 refine bU ?_
 refine aP (t:=9) (i:=2) (by kernel_rfl) rfl (fun w1 hl K hK=>?_)
 go_simp
 refine hK.out _ _ (fun _=>aj _ _) ?_
 have hsl:=DL w1 x 5
 have hlA:Later _ (w1.alloc (.cells #[.int .u8 x] 5)):=Later.trans _ _ _ hl (aj _ _)
 clear hK K hl
 generalize w1.alloc (.cells #[.int .u8 x] 5)=w5 at *
 have HSL:Hid (∀ u,Later w5 u→ak u (.slice (some ⟨w1.heap.size,0,none⟩) 1 1) 1 gY [x]):=ah fun u hl=>hsl.kept hl
 refine EI 3 ?_ ?_ ?_ rfl (fun w1=>?_) (fun w1 hl=>?_) ?_
 rotate_left 4
 ·exact EK.out _ w1 (HSL.out w1 hl)
 rotate_left
 ·go_simp
 simp only[eA,eB,eC,Act.put,eD,eE,eF]
 refine aP (t:=9) (i:=9) (by kernel_rfl) rfl (fun w1 hl K hK=>?_)
 obtain⟨hS,_,_,hK2⟩:=HF.out w1 (Later.trans _ _ _ hlA hl)
 have hsz:=hK2.others.size
 go_simp
 refine(yR.out _ hS (by omega)).mono ?_
 rintro e w2 ⟨rfl,hS3,hK3⟩
 refine hK.out _ _ (fun h=>absurd rfl h) ?_
 clear hK K hl HF hS
 obtain⟨a,c,hS3⟩:=hS3
 have wR:=hK2.trans hK3
 refine aH (by kernel_rfl) (fun w1 hl=>?_) _
 have hS4:=hS3.kept hl
 go_wp2
 go_end0
 exact⟨rfl,⟨a,c,hS4⟩,wR.trans (ay.below (by have:=hS3.box.lt;omega) hl)⟩
def Xu(r qB:Nat)(g:Nat×Nat)(n cap i:Nat)(l:List UInt8)(X:List Lx)(k p:Nat)(c:Nat)(A:Sum (Nat×Nat) (Lx×Nat))(u:World)(ps pc:Nat):Prop :=
 if c=92 then Calls Tryz.prog 221 #[.pointer (some ⟨r,0,none⟩)] u (fZ r qB g n cap i l X k p u A)
 else if c=91 then Calls Tryz.prog 222 #[.pointer (some ⟨r,0,none⟩)] u (fZ r qB g n cap i l X k p u A)
 else if c=123 then Calls Tryz.prog 223 #[.pointer (some ⟨r,0,none⟩)] u (fZ r qB g n cap i l X k p u A)
 else if c=46 then Calls Tryz.prog 224 #[.pointer (some ⟨ps,0,none⟩)] u (fZ r qB g n cap i l X k p u A)
 else if c=93∨c=125∨c=10 then Calls Tryz.prog 227 #[.pointer (some ⟨ps,0,none⟩)] u (fZ r qB g n cap i l X k p u A)
 else Calls Tryz.prog 229 #[.pointer (some ⟨r,0,none⟩)] u (fun e u'=>e=.returned (.bool true)∧fZ r qB g n cap i l X k p u A (.returned (.tuple #[])) u') ∨
  (Calls Tryz.prog 229 #[.pointer (some ⟨r,0,none⟩)] u (aY u (.bool false))∧∀ u1,Below u.heap.size u u1→Calls Tryz.prog 230 #[.pointer (some ⟨ps,0,none⟩),.pointer (some ⟨pc,0,none⟩)] u1 (fZ r qB g n cap i l X k p u1 A))
theorem ZC(r qB:Nat)(g:Nat×Nat)(n cap i:Nat)(l:List UInt8)(X:List Lx)(v:Value)(k p:Nat)(A:Sum (Nat×Nat) (Lx×Nat))(w:World)(h:bJ w r qB g n cap i l X v k p)(hr:r<qB)(hb:qB≤w.heap.size)(hi:i<l.length)
  (HM:Hid (∀ u,bJ u r qB g n cap i l X v k p→qB≤u.heap.size→∀ ps pc,Box u ps #[.pointer (some ⟨r,0,none⟩)] 302→Box u pc #[.int .u8 (l[i]).toNat] 5→Xu r qB g n cap i l X k p (l[i]).toNat A u ps pc)) :
  Calls Tryz.prog 181 #[.pointer (some ⟨r,0,none⟩)] w (fZ r qB g n cap i l X k p w A):=by
 have hlen:=h.byte.1
 have hn63:=h.byte.2.1
 have hby:=fun u (hu:bJ u r qB g n cap i l X v k p)=>hu.byte.2.2 i hi
 have hin2:i<n:=by omega
 generalize (l[i]).toNat=c at *
 have hi0:(0:Int)≤(i:Int):=by omega
 have hin:(i:Int)<(n:Int):=by omega
 have yE:=ah hby
 have h1:=h.kept (aj w (.cells #[.pointer (some ⟨r,0,none⟩)] 302))
 have hp1:=Box.new w #[.pointer (some ⟨r,0,none⟩)] 302
 have hk1:=ay.below (qB:=qB) (by omega:r≤w.heap.size) (aj w (.cells #[.pointer (some ⟨r,0,none⟩)] 302))
 have y0:=hp1.cell 0
 generalize hps:w.heap.size=ps at *
 clear hby h hi hlen
 go_enter Tryz.func181,Tryz.ntmps181
 go_wp2_with fail
 generalize (w.alloc (.cells #[.pointer (some ⟨r,0,none⟩)] 302))=W0 at *
 have HF:Hid (∀ u,Later W0.drew u→bJ u r qB g n cap i l X v k p∧Box u ps #[.pointer (some ⟨r,0,none⟩)] 302∧ay r qB w u):=ah fun u hl=>⟨(h1.kept (Below.refl _ _).drew).kept hl,hp1.drew.kept hl,hk1.trans ((ay.below (qB:=qB) (by have:=h1.box.lt;omega) (Below.refl W0.heap.size W0).drew).trans (ay.below (by show r≤W0.heap.size;have:=h1.box.lt;omega) hl))⟩
 clear h1 hp1 hk1
 refine aA (R:=Later) 11 (by kernel_rfl) ?_
 refine pl [0,1,2,3,4,5,6,7,8,9] ?_
 repeat
  refine dI ?_ rfl (fun w1 hl=>?_) ?_
  rotate_left
  ·obtain⟨hS,hp,_⟩:=HF.out w1 hl;have y0:=hp.cell 0;obtain⟨x0,x1,x2,x3,x4⟩:=hS.cells;have c0:=yE.out w1 hS;go_simp;try with_reducible rfl
  simp only[eA,eB,eC,Act.put,eD,eE,eF]
 refine bU ?_
 refine aP (t:=11) (i:=10) (by kernel_rfl) rfl (fun w1 hl K hK=>?_)
 obtain⟨hS,hp,hK2⟩:=HF.out w1 hl
 have hsz:=hK2.others.size
 have hpl:=hp.lt
 clear hl HF
 go_simp
 refine hK.out _ _ (fun _=>aj _ _) ?_
 clear hK K
 have hpc:=Box.new w1 #[.int .u8 0] 5
 have hS1:=hS.kept (aj w1 (.cells #[.int .u8 0] 5))
 have hp1:=hp.kept (aj w1 (.cells #[.int .u8 0] 5))
 have hK1:=hK2.trans (ay.below (qB:=qB) (by omega) (aj w1 (.cells #[.int .u8 0] 5)))
 have hrb:r≠w1.heap.size:=by omega
 have hbb:qB≤w1.heap.size:=by omega
 have Jw:ps≠w1.heap.size:=by omega
 clear hS hK2 hp hpl hsz
 generalize hbq:w1.heap.size=pc at *
 clear hbq
 refine aP (t:=11) (i:=11) (by kernel_rfl) rfl (fun w1 hl K hK=>?_)
 have RI:=hpc.kept hl
 have hS2:=hS1.kept hl
 have hp2:=hp1.kept hl
 have hK2:=hK1.trans (ay.below (qB:=qB) (by have:=hS1.box.lt;omega) hl)
 have r0:=RI.cell 0
 have s0:=RI.free 0
 clear hpc hS1 hp1 hK1 hl
 go_simp
 refine hK.out _ _ (fun h=>absurd rfl h) ?_
 clear hK K r0 s0
 have ag9:Box _ pc #[.int .u8 c] 5:=RI.set 0 (.int .u8 c)
 have hS3:=hS2.late RI hrb hbb 0 (.int .u8 c)
 have hp3:=hp2.other ⟨pc,0,none⟩ (.int .u8 c) Jw
 have hK3:=hK2.trans (ay.late (r:=r) (qB:=qB) w1 (i:=0) hbb (by omega) (.int .u8 c))
 clear RI hS2 hp2 hK2
 refine aH (by kernel_rfl) (fun w1 hl=>?_) _
 have Xv:=ag9.kept hl
 have hS4:=hS3.kept hl
 have F5:=hp3.kept hl
 have hK4:=hK3.trans (ay.below (qB:=qB) (by have:=hS3.box.lt;omega) hl)
 clear ag9 hS3 hp3 hK3 hl
 have CG:=hK4.others.size
 have y0:=F5.cell 0
 have y1:=Xv.cell 0
 have hm:=HM.out _ hS4 (by omega) _ _ F5 Xv
 clear HM
 unfold Xu at hm
 by_cases ZE:c=92
 ·rw[if_pos ZE] at hm
  have e92:((c:Int)==92)=true:=by rw[ZE];rfl
  clear ZE
  go_wp2_with fail
  refine hm.mono ?_
  intro e uf hf
  obtain rfl:=hf.ret
  go_wp2
  go_end0
  exact hf.over hK4
 have e92:((c:Int)==92)=false:=by simp;omega
 rw[if_neg ZE] at hm
 clear ZE
 by_cases ZF:c=91
 ·rw[if_pos ZF] at hm
  have e91:((c:Int)==91)=true:=by rw[ZF];rfl
  clear ZF
  go_wp2_with fail
  refine hm.mono ?_
  intro e uf hf
  obtain rfl:=hf.ret
  go_wp2
  go_end0
  exact hf.over hK4
 have e91:((c:Int)==91)=false:=by simp;omega
 rw[if_neg ZF] at hm
 clear ZF
 by_cases RJ:c=123
 ·rw[if_pos RJ] at hm
  have alR:((c:Int)==123)=true:=by rw[RJ];rfl
  clear RJ
  go_wp2_with fail
  refine hm.mono ?_
  intro e uf hf
  obtain rfl:=hf.ret
  go_wp2
  go_end0
  exact hf.over hK4
 have alR:((c:Int)==123)=false:=by simp;omega
 rw[if_neg RJ] at hm
 clear RJ
 by_cases ZG:c=46
 ·rw[if_pos ZG] at hm
  have e46:((c:Int)==46)=true:=by rw[ZG];rfl
  clear ZG
  go_wp2_with fail
  refine hm.mono ?_
  intro e uf hf
  obtain rfl:=hf.ret
  go_wp2
  go_end0
  exact hf.over hK4
 have e46:((c:Int)==46)=false:=by simp;omega
 rw[if_neg ZG] at hm
 clear ZG
 by_cases VK:c=93
 ·rw[if_pos (.inl VK)] at hm
  have e93:((c:Int)==93)=true:=by rw[VK];rfl
  clear VK
  go_wp2_with fail
  refine hm.mono ?_
  intro e uf hf
  obtain rfl:=hf.ret
  go_wp2
  go_end0
  exact hf.over hK4
 have e93:((c:Int)==93)=false:=by simp;omega
 by_cases RN:c=125
 ·rw[if_pos (.inr (.inl RN))] at hm
  have e125:((c:Int)==125)=true:=by rw[RN];rfl
  clear VK RN
  go_wp2_with fail
  refine hm.mono ?_
  intro e uf hf
  obtain rfl:=hf.ret
  go_wp2
  go_end0
  exact hf.over hK4
 have e125:((c:Int)==125)=false:=by simp;omega
 by_cases q10:c=10
 ·rw[if_pos (.inr (.inr q10))] at hm
  have e10:((c:Int)==10)=true:=by rw[q10];rfl
  clear VK RN q10
  go_wp2_with fail
  refine hm.mono ?_
  intro e uf hf
  obtain rfl:=hf.ret
  go_wp2
  go_end0
  exact hf.over hK4
 have e10:((c:Int)==10)=false:=by simp;omega
 rw[if_neg (by omega)] at hm
 clear VK RN q10
 rcases hm with hm | ⟨hs,hm⟩
 ·go_wp2_with fail
  refine hm.mono ?_
  rintro e uf ⟨rfl,hf⟩
  go_wp2
  go_end0
  exact hf.over hK4
 go_wp2_with fail
 refine hs.mono ?_
 rintro e u5 ⟨rfl,bF⟩
 have hf:=hm _ bF
 clear hm hs
 have hp5:=F5.kept bF
 have alS:=Xv.kept bF
 have hK6:=hK4.trans (ay.below (qB:=qB) (by have:=hS4.box.lt;omega) bF)
 have z0:=hp5.cell 0
 have z1:=alS.cell 0
 clear y0 y1 hS4 F5 Xv
 go_wp2_with fail
 refine hf.mono ?_
 intro e uf hf
 obtain rfl:=hf.ret
 go_wp2
 go_end0
 exact hf.over hK6
end
section
open Go.RowKit
theorem afP{l:List UInt8}{i x j:Nat}(h:mM l i=.inr (x,j)):x<256:=by
 unfold mM at h
 have hu:∀ u:UInt8,u.toNat<256:=fun u=>u.toNat_lt
 split at h
 ·cases h
 split at h
 ·cases h;omega
 split at h
 ·cases h;omega
 split at h
 ·cases h;omega
 split at h
 ·split at h
  ·split at h
   ·rename_i a b h1 h2
    have:=Nz h1
    have:=Nz h2
    cases h
    omega
   ·cases h
  ·cases h
 ·split at h
  ·cases h
  ·cases h;exact hu _
theorem OH{l:List UInt8}{fr kd ps:Nat}(h:oG l fr=.inl (kd,ps)):kd≠0:=by
 have hl:∀ (n:Nat) (s:au) (i:Nat),vJ l fr n s i=.inl (kd,ps)→kd≠0:=by
  intro n
  induction n with
  | zero=>intro s i h;rw[vJ] at h;cases h;decide
  | succ n ih =>
   intro s i h
   rw[zA] at h
   split at h
   ·cases h
   ·split at h
    ·rename_i hq;cases h;exact Rz hq
    ·exact ih _ _ h
 unfold oG at h
 split at h
 ·split at h
  ·rename_i q hq
   cases h
   unfold yD at hq
   split at hq
   ·rename_i h2;cases hq;exact Rz h2
   ·exact hl _ _ _ hq
  ·cases h
 ·cases h;decide
theorem ZH{l:List UInt8}{fr j:Nat}{s:au}(h:oG l fr=.inr (s,j)):fr<j:=by
 have hl:∀ (n:Nat) (t s:au) (i:Nat),vJ l fr n t i=.inr (s,j)→i<j:=by
  intro n
  induction n with
  | zero=>intro t s i h;rw[vJ] at h;cases h
  | succ n ih =>
   intro t s i h
   rw[zA] at h
   split at h
   ·cases h;omega
   ·split at h
    ·cases h
    ·rename_i q k hq
     have:=Ec hq
     have:=ih _ _ _ h
     omega
 have hf:∀ i (s:au),yD l fr i=.inr (s,j)→i<j:=by
  intro i s hq
  unfold yD at hq
  split at hq
  ·cases hq
  ·rename_i q k h2
   have:=Ec h2
   have:=hl _ _ _ _ hq
   omega
 unfold oG at h
 split at h
 ·split at h
  ·cases h
  ·rename_i t j2 hq
   cases h
   have:=hf _ _ hq
   split at this <;> omega
 ·cases h
theorem afQ{l:List UInt8}{i j:Nat}{q:Int×Int}(hi:i<l.length)(h:yQ l i=.inr (q,j)):i<j:=by
 unfold yQ at h
 split at h
 ·cases h
 ·rename_i lo p1 t1
  have h1:=kN t1 (by omega)
  split at h
  ·rename_i nO
   have:=iO nO
   split at h
   ·cases h;omega
   ·split at h
    ·cases h
    ·rename_i hi2 q2 t2
     have h2:=kN t2 (by omega)
     split at h
     ·split at h
      ·cases h
      ·cases h;omega
     ·cases h
  ·split at h
   ·cases h;omega
   ·cases h
theorem ZI{l:List UInt8}{i j:Nat}{x:Lx}(hi:i<l.length)(h:mY l i=.inr (x,j)):i<j:=by
 unfold mY at h
 dsimp only at h
 split at h
 ·split at h
  ·cases h
  ·rename_i hq;cases h;exact VG hq
 split at h
 ·split at h
  ·cases h
  ·rename_i hq;cases h;exact ZH hq
 split at h
 ·split at h
  ·cases h
  ·rename_i hq;cases h;exact afQ hi hq
 split at h
 ·cases h;omega
 split at h
 ·cases h
 split at h
 ·cases h;omega
 ·cases h;omega
theorem afR{l:List UInt8}{i kd ps:Nat}(h:yQ l i=.inl (kd,ps)):kd≠0:=by
 unfold yQ at h
 repeat' split at h
 all_goals first | (cases h;decide) | cases h
theorem OI{l:List UInt8}{i kd ps:Nat}(h:mY l i=.inl (kd,ps)):kd≠0:=by
 unfold mY at h
 dsimp only at h
 split at h
 ·split at h
  ·rename_i hq;cases h;rw[NH hq];decide
  ·cases h
 split at h
 ·split at h
  ·rename_i hq;cases h;exact OH hq
  ·cases h
 split at h
 ·split at h
  ·rename_i hq;cases h;exact afR hq
  ·cases h
 split at h
 ·cases h
 split at h
 ·cases h;decide
 split at h
 ·cases h
 ·cases h
theorem afS(r qB:Nat)(g:Nat×Nat)(n cap i:Nat)(l:List UInt8)(X:List Lx)(v:Value)(k p:Nat)(w:World)(h:bJ w r qB g n cap i l X v k p)(hr:r<qB)(hb:qB≤w.heap.size)(hi:i<l.length)(hX:X.length≤4294967296)(hS:OG l) :
  Calls Tryz.prog 181 #[.pointer (some ⟨r,0,none⟩)] w (fZ r qB g n cap i l X k p w (mY l i)):=by
 have hgd:l.getD i 0=l[i]:=by simp[List.getD_eq_getElem?_getD,hi]
 have hin:i<n:=by have:=h.byte.1;omega
 have hh:∀ c:UInt8,(l[i]).toNat=c.toNat→aX l i c=true:=fun c hc=>by
  unfold aX;rw[hgd];simp[hi,UInt8.toNat_inj.1 hc]
 refine ZC r qB g n cap i l X v k p _ w h hr hb hi (ah fun u hu hbu ps pc hp hpc=>?_)
 unfold Xu mY
 rw[hgd]
 dsimp only
 by_cases c1:(l[i]).toNat=92
 ·rw[if_pos c1,if_pos c1]
  cases ha:mM l i with
  | inl q=>exact Xr r qB g n cap i l X v k p u hu hr hbu (hh 92 c1) q.1 q.2 ha
  | inr q=>exact Xt r qB g n cap i l X v k p u hu hr hbu (hh 92 c1) q.1 q.2 ha (afP (x:=q.1) (j:=q.2) ha) hX
 rw[if_neg c1,if_neg c1]
 by_cases c2:(l[i]).toNat=91
 ·rw[if_pos c2,if_pos c2]
  cases ha:oG l i with
  | inl q=>exact Zz r qB g n cap i l X v k p u hu hr hbu q.1 q.2 ha (OH (kd:=q.1) (ps:=q.2) ha)
  | inr q=>exact ZA r qB g n cap i l X v k p u hu hr hbu q.1 q.2 ha hX
 rw[if_neg c2,if_neg c2]
 by_cases c3:(l[i]).toNat=123
 ·rw[if_pos c3,if_pos c3];exact ag8 r qB g n cap i l X v k p u hu hr hbu hin hX
 rw[if_neg c3,if_neg c3]
 by_cases c4:(l[i]).toNat=46
 ·rw[if_pos c4,if_pos c4];exact acI r qB g n cap i l X v k p ps _ u hu hr hbu hp hin hX
 rw[if_neg c4,if_neg c4]
 by_cases c5:(l[i]).toNat=93∨(l[i]).toNat=125∨(l[i]).toNat=10
 ·rw[if_pos c5,if_pos c5];exact afO r qB g n cap i l X v k p ps _ u hu hr hp
 rw[if_neg c5,if_neg c5]
 have hs:=afM r qB g n cap i l X v k p u hu hr hbu hX hi
 by_cases c6:mX (l[i]).toNat=0
 ·rw[if_pos c6]
  exact .inr ⟨hs.mono fun e u' h=>by unfold pX at h;rwa[if_pos c6] at h,fun u1 hB=>ZB r qB g n cap i l X v k p ps pc _ _ u1 (hu.kept hB) hr (by have:=hB.size;omega) (hp.kept hB) (hpc.kept hB) (l[i]).toNat_lt hin hX⟩
 ·rw[if_neg c6]
  exact .inl (hs.mono fun e u' h=>by
   unfold pX at h
   rw[if_neg c6] at h
   exact⟨h.1,rfl,h.2⟩)
end
section
open Go.RowKit
theorem jr{P:Program}{fn:Func}{R:Ending→World→Prop}{a:Act}{w:World}{p q:Tmp}{vK b2 E2:Nat}{cs2:Array Value}{d2:TypeDesc}{v1:Value}
  (hr:fn.results=#[.tmp p,.cell q vK]) (hp:a.tmps.getD p undef=v1) (hq:a.tmps.getD q undef=.pointer (some ⟨b2,0,none⟩)) (hb2:Box w b2 cs2 E2)
  (hu2:P.underlying vK=some d2) (hd2:(match d2 with | .struct _ | .array _ _=>true | _=>false)=true) (hi2:(P.info? vK).map (·.size)=some cs2.size)
  (hdf:a.defers=[]) (hR:R (.returned (.tuple #[v1,.agg cs2])) w):bodyPost P fn R .ret a w :=
 ⟨hdf,_,by
  have hp':a.tmps[p]?.getD undef=v1:=by simpa using hp
  have hq':a.tmps[q]?.getD undef=.pointer (some ⟨b2,0,none⟩):=by simpa using hq
  simp[results,hr,hp',hq',asAddr,run_loadVar_row w b2 E2 vK cs2 (0,0) d2 hb2 hu2 hd2 hi2],hR⟩
def acJ(w:World)(l:List UInt8)(e:Ending)(w':World):Prop :=
 Below w.heap.size w w'∧match jP l with
  | .inl q=>e=.returned (.tuple #[.slice none 0 0,dZ q.1 q.2])
  | .inr X=>∃ a c,e=.returned (.tuple #[.slice a X.length c,dZ 0 0])∧Own w' w.heap.size 221 8 fV (.slice a X.length c) X
def measS(r n:Nat)(W:World):Nat:=match W.cell? ⟨r,1,none⟩ with
 | some (.int _ i)=>n - i.toNat
 | _=>0
theorem RP{W:World}{r qB:Nat}{g:Nat×Nat}{n cap i:Nat}{l:List UInt8}{X:List Lx}{v:Value}{k p:Nat}(h:bJ W r qB g n cap i l X v k p):measS r n W=n - i:=by
 unfold measS
 rw[h.cells.2.1]
 simp
def ZJ(w:World)(g:Nat×Nat)(n cap:Nat)(l:List UInt8)(ANS:Sum (Nat×Nat) (List Lx))(W:World):Prop :=
 ∃ (i f:Nat) (X:List Lx) (a:Option Addr) (c:Nat),bJ W (w.heap.size+1) (w.heap.size+1+1) g n cap i l X (.slice a X.length c) 0 0∧Box W w.heap.size #[.int .i64 0,.int .i64 0] 66∧Below w.heap.size w W∧lexFrom l f i X=ANS∧l.length<f+i∧X.length≤i
theorem ZK(g:Nat×Nat)(n cap:Nat)(l:List UInt8)(w:World)(h:ak w (.slice (some ⟨g.1,g.2,none⟩) n cap) 1 bK l)(hg:g.1<w.heap.size)(hS:OG l) :
  Calls Tryz.prog 134 #[.slice (some ⟨g.1,g.2,none⟩) n cap] w (acJ w l):=by
 have hlen:=h.cellsA.1
 have zi:=ah hS
 clear hS
 have hx0:=Box.new w #[.int .i64 0,.int .i64 0] 66
 by_cases hbig:65536<n
 ·have e1:decide (65536<(n:Int))=true:=by simp;omega
  have hans:jP l=.inl (4,65536):=by unfold jP;rw[if_pos (by omega)]
  have HA:=ah hans
  have c0:=hx0.cell 0
  have c1:=hx0.cell 1
  have f0:=hx0.free 0
  have f1:=hx0.free 1
  clear h hg hans hlen
  go_enter Tryz.func134,Tryz.ntmps134
  go_wp2
  refine jr Tryz.results134 rfl rfl (cs2:=#[.int .i64 4,.int .i64 65536]) (E2:=66) ?_ Tryz.underlying66 rfl (by kernel_rfl) rfl ⟨?_,by rw[HA.out];rfl⟩
  ·first | exact(hx0.set 0 (.int .i64 4)).set 1 (.int .i64 65536) | exact Box.new _ _ _
  ·go_grown
 ·have e1:decide (65536<(n:Int))=false:=by simp;omega
  have hans:jP l=lexFrom l (l.length+1) 0 []:=by unfold jP;rw[if_neg (by omega)]
  obtain⟨ANS,hA⟩:∃ ANS,lexFrom l (l.length+1) 0 []=ANS:=⟨_,rfl⟩
  have hb0:Below w.heap.size w ((w.alloc (.cells #[.int .i64 0,.int .i64 0] 66)).alloc (.cells (spC g n cap 0 (.slice none 0 0) 0 0) 271)):=((Below.refl _ w).alloc (Nat.le_refl _) _).alloc (by simp) _
  have Du:ZJ w g n cap l ANS ((w.alloc (.cells #[.int .i64 0,.int .i64 0] 66)).alloc (.cells (spC g n cap 0 (.slice none 0 0) 0 0) 271)) :=
   ⟨0,l.length+1,[],none,0,⟨Box.new' (by simp) _ _,h.kept hb0,Own.nil _ _ _ _ _,by omega,by omega⟩,hx0.alloc _,hb0,hA,by omega,Nat.le_refl _⟩
  rw[hA] at hans
  have HA:=ah hans
  unfold spC at Du
  have HL:=ah hlen
  clear hans hA h hx0 hb0 hlen
  go_enter Tryz.func134,Tryz.ntmps134
  go_wp2
  go_loopw [] (fun wr=>ZJ w g n cap l ANS wr) (fun wr=>measS (w.heap.size+1) n wr)
  case atStart=>exact Du
  case round =>
   clear Du
   obtain⟨i,f,X,a,c,hS,hX0,hB,hlf,hfu,hXl⟩:=hrel
   obtain⟨x0,x1,x2,x3,x4⟩:=hS.cells
   have hsz:=hS.box.lt
   by_cases hlt:i<n
   ·have hil:i<l.length:=by rw[←HL.out];exact hlt
    have aha:=HL.out
    have hdi:decide ((i:Int)<(n:Int))=true:=decide_eq_true (by omega)
    have hnx:=afS (w.heap.size+1) (w.heap.size+1+1) g n cap i l X _ 0 0 wr hS (by omega) (by omega) hil (by omega) zi.out
    have hup:=fun x j=>@ZI l i j x hil
    have hne:=fun kd ps=>@OI l i kd ps
    obtain⟨f,rfl⟩:∃ f',f=f'+1:=⟨f - 1,by omega⟩
    rw[lexFrom,if_pos hil] at hlf
    have hm0:=RP hS
    cases hlx:mY l i with
    | inl q =>
     rw[hlx] at hnx hlf
     dsimp only at hlf
     subst hlf
     have hq:=hne q.1 q.2 hlx
     have ek:((q.1:Int) != 0)=true:=by simp;omega
     have HN:=ah hnx
     clear hnx hup hne hq aha hm0
     go_wp2_with fail
     refine HN.out.mono ?_
     rintro e w2 ⟨rfl,⟨a2,c2,hS2⟩,hK2⟩
     obtain⟨y0,y1,y2,y3,y4⟩:=hS2.cells
     have hX2:Box w2 w.heap.size #[.int .i64 0,.int .i64 0] 66:=hK2.cells.box (by show ¬ (_∨_);omega) hX0
     have hB2:Below w.heap.size w w2:=hB.trans (hK2.low.mono (by omega))
     go_wp2_with fail
     have HF:Hid (∀ u,Later w2.drew u→bJ u (w.heap.size+1) (w.heap.size+1+1) g n cap i l X (.slice a2 X.length c2) q.1 q.2∧Box u w.heap.size #[.int .i64 0,.int .i64 0] 66∧Below w.heap.size w u):=ah fun u hl=>⟨(hS2.kept (Below.refl _ _).drew).kept hl,hX2.drew.kept hl,(hB2.trans ((Below.refl _ w2).drew.mono hB2.size)).trans (hl.mono hB2.size)⟩
     clear y0 y1 y2 y3 y4 x0 x1 x2 x3 x4 hS2 hX2 hB2 hK2 hS hX0 hB
     refine aA (R:=Later) 3 (by kernel_rfl) ?_
     refine pl [0,1,2] ?_
     repeat
      refine dI ?_ rfl (fun w1 hl=>?_) ?_
      rotate_left
      ·obtain⟨x0,x1,x2,x3,x4⟩:=(HF.out w1 hl).1.cells;go_simp;try with_reducible rfl
      simp only[eA,eB,eC,Act.put,eD,eE,eF]
     refine bU ?_
     refine aP (t:=3) (i:=3) (by kernel_rfl) rfl (fun w1 hl K hK=>?_)
     obtain⟨_,fF,hB3⟩:=HF.out w1 hl
     have r0:=fF.cell 0
     have r1:=fF.cell 1
     have s0:=fF.free 0
     have s1:=fF.free 1
     go_simp
     refine hK.out _ _ (fun h=>absurd rfl h) ?_
     clear hK K r0 r1 s0 s1
     have gJ:=(fF.set 0 (.int .i64 q.1)).set 1 (.int .i64 q.2)
     have hB4:=(hB3.setCell (p:=⟨w.heap.size,0,none⟩) (by simp) (.int .i64 q.1)).setCell (p:=⟨w.heap.size,1,none⟩) (by simp) (.int .i64 q.2)
     clear fF hB3 HF hl
     refine aH (by kernel_rfl) (fun w1 hl=>?_) _
     have dA:=gJ.kept hl
     have bF:=hB4.trans (hl.mono hB4.size)
     go_wp2
     exact jr Tryz.results134 rfl rfl dA Tryz.underlying66 rfl (by kernel_rfl) rfl ⟨bF,by rw[HA.out];rfl⟩
    | inr q =>
     rw[hlx] at hnx hlf
     dsimp only at hlf
     have hq:=hup q.1 q.2 hlx
     have HN:=ah hnx
     clear hnx hup hne aha
     go_wp2_with fail
     refine HN.out.mono ?_
     rintro e w2 ⟨rfl,⟨a2,c2,hS2⟩,hK2⟩
     obtain⟨y0,y1,y2,y3,y4⟩:=hS2.cells
     have hX2:Box w2 w.heap.size #[.int .i64 0,.int .i64 0] 66:=hK2.cells.box (by show ¬ (_∨_);omega) hX0
     have hB2:Below w.heap.size w w2:=hB.trans (hK2.low.mono (by omega))
     have hm2:=RP hS2
     go_wp2
     go_roundw
     case rel =>
      exact⟨q.2,f,X++[q.1],a2,c2,hS2,hX2,hB2,hlf,by omega,by rw[List.length_append,List.length_singleton];omega⟩
     case measure=>rw[hm0,hm2];omega
   ·have hdi:decide ((i:Int)<(n:Int))=false:=decide_eq_false (by omega)
    have fQ:ANS=.inr X:=by
     rw[←hlf]
     cases f with
     | zero=>rfl
     | succ f=>rw[lexFrom,if_neg (by rw[←HL.out];exact hlt)]
    subst fQ
    have c0:=hX0.cell 0
    have c1:=hX0.cell 1
    have f0:=hX0.free 0
    have f1:=hX0.free 1
    have HS:=ah hS
    clear hlf hS
    go_wp2
    have fF:=(hX0.set 0 (.int .i64 0)).set 1 (.int .i64 0)
    exact jr Tryz.results134 rfl rfl fF Tryz.underlying66 rfl (by kernel_rfl) rfl ⟨(hB.setCell (by simp) _).setCell (by simp) _,by rw[HA.out];exact⟨a,c,rfl,((HS.out.out.mono (by omega)).J8 hX0 (by decide) 0 _).J8 (hX0.set 0 _) (by decide) 1 _⟩⟩
end
section
open Go.RowKit
def qI(k:Int)(a:Option Addr)(cap:Nat):List Vt→Vt
 | [x]=>x
 | l=>.mk k 0 a cap l 0 0
theorem RQ(k:Int)(a:Option Addr)(cap:Nat)(l:List Vt):(qI k a cap l).tr=Bl k (l.map Vt.tr):=by
 match l with
 | []=>exact Vt.jJ _ _ _ _ _ _ _
 | [x]=>rfl
 | x::y::r=>exact Vt.jJ _ _ _ _ _ _ _
theorem Ld(k:Int)(l:List Vt)(a:Option Addr)(cap:Nat)(w:World)(sA:ak w (.slice a l.length cap) 8 Vt.cells l) :
  Calls Tryz.prog 235 #[.int .i64 k,.slice a l.length cap] w (fun e w'=>e=.returned (.agg (qI k a cap l).cells.toArray)∧Below w.heap.size w w'):=by
 by_cases h1:l.length=1
 ·obtain⟨V,rfl⟩:∃ V,l=[V]:=by
   match l,h1 with
   | [V],_=>exact⟨V,rfl⟩
  obtain⟨b,o,c1,c2,c3,c4,c5⟩:=sA.kids
  obtain rfl:=c3 0 (by simp)
  have bB:Below w.heap.size w (w.alloc (.cells bG 115)):=by go_grown
  have e1:=c5 0 (by simp) _ bB
  simp only[List.length_singleton]
  have hbl:=c4 (by simp)
  clear sA c3 c4 c5 h1
  simp only[List.getElem_cons_zero] at e1
  obtain⟨k1,s1,a1,Bj,yY,lo1,hi1⟩:=V
  obtain⟨y0,y1,y2,y3,y4,y5,y6,y7⟩:=qP e1
  simp only[Nat.zero_mul,Nat.add_zero] at y0 y1 y2 y3 y4 y5 y6 y7
  clear e1
  go_enter Tryz.func235,Tryz.ntmps235
  go_wp2
  exact cZ Tryz.results235 rfl (cs:=(aC k1 s1 a1 yY.length Bj lo1 hi1).toArray) (Box.new _ _ _) Tryz.underlying115 rfl (by kernel_rfl) rfl ⟨rfl,by go_grown⟩
 ·have g1:(((l.length:Nat):Int)==1)=false:=by rw[beq_eq_false_iff_ne];omega
  have hf:qI k a cap l=.mk k 0 a cap l 0 0:=by
   match l,h1 with
   | [],_=>rfl
   | _::_::_,_=>rfl
  have hz:(Vt.mk k 0 a cap l 0 0).cells=[.int .i64 k,.int .u64 0,.int .u64 0,.int .u64 0,.int .u64 0,.slice a l.length cap,.int .i64 0,.int .i64 0]:=by
   show aC k 0 a l.length cap 0 0=_
   simp only[aC,qK];rfl
  rw[hf,hz]
  clear sA hf hz h1
  generalize l.length=n at *
  go_enter Tryz.func235,Tryz.ntmps235
  go_wp2
  exact cZ Tryz.results235 rfl (cs:=#[.int .i64 k,.int .u64 0,.int .u64 0,.int .u64 0,.int .u64 0,.slice a n cap,.int .i64 0,.int .i64 0]) (Box.new _ _ _) Tryz.underlying115 rfl (by kernel_rfl) rfl ⟨rfl,by go_grown⟩
end
section
open Go.RowKit
def pY(x:Lx):Prop:=(x.kind=1∧x.lo=0∧x.hi=0)∨(2≤x.kind∧x.kind<8∧x.set=0∧x.lo=0∧x.hi=0)∨(x.kind=8∧x.set=0∧0≤x.lo∧x.lo≤1000∧(x.hi=-1∨x.lo≤x.hi∧x.hi≤1000))
structure aK(r:Nat)(ov:Value)(w w':World):Prop where
 low:Below r w w'
 block:∀ b,b<w.heap.size→b≠r→ov.ownBlock≠some b→w'.heap[b]?=w.heap[b]?
def dW(w:World)(ov pI:Value):Prop:=∀ g,pI.ownBlock=some g→ov.ownBlock=some g∨w.heap.size≤g
theorem dW.refl(w:World)(ov:Value):dW w ov ov:=fun _ h=>.inl h
theorem dW.trans{w w1:World}{ov yF F6:Value}(f:dW w ov yF)(hs:w.heap.size≤w1.heap.size)(k:dW w1 yF F6):dW w ov F6:=fun g hg=>by
 rcases k g hg with h | h
 ·exact f g h
 ·exact .inr (by omega)
theorem dW.ne{w:World}{ov pI:Value}{b:Nat}(f:dW w ov pI)(hb:b<w.heap.size)(h:ov.ownBlock≠some b):pI.ownBlock≠some b:=fun e=>by
 rcases f b e with h1 | h1
 ·exact h h1
 ·omega
theorem aK.refl(r:Nat)(ov:Value)(w:World):aK r ov w w:=⟨Below.refl _ _,fun _ _ _ _=>rfl⟩
theorem aK.trans{r:Nat}{ov yF:Value}{a b c:World}(h:aK r ov a b)(f:dW a ov yF)(k:aK r yF b c):aK r ov a c :=
 ⟨h.low.trans k.low,fun x hx hr hg=>by rw[k.block x (Nat.lt_of_lt_of_le hx h.low.size) hr (f.ne hx hg),h.block x hx hr hg]⟩
theorem aK.tr{r:Nat}{ov:Value}{a b c:World}(h:aK r ov a b)(k:aK r ov b c):aK r ov a c:=h.trans (dW.refl _ _) k
theorem aK.below{r:Nat}{ov:Value}{w w':World}(hr:r≤w.heap.size)(h:Below w.heap.size w w'):aK r ov w w':=⟨h.mono hr,fun b hb _ _=>h.block b hb⟩
theorem aK.set{r:Nat}{ov:Value}(w:World)(i:Nat)(v:Value):aK r ov w (w.setCell ⟨r,i,none⟩ v):=⟨(Below.refl r w).setCell (by simp) v,fun b _ hr _=>heap_setCell_other w ⟨r,i,none⟩ b v hr⟩
theorem aK.later{r:Nat}{ov:Value}{w w':World}(h:aK r ov w w'){a:Addr}(ha:w.heap.size≤a.block)(hr:r≤a.block)(v:Value):aK r ov w (w'.setCell a v) :=
 ⟨h.low.setCell hr v,fun b hb h1 h2=>(heap_setCell_other w' a b v (by omega)).trans (h.block b hb h1 h2)⟩
theorem aK.alloc{r:Nat}{ov:Value}{w w':World}(h:aK r ov w w')(hr:r≤w'.heap.size)(o:Obj):aK r ov w (w'.alloc o):=h.tr (aK.below hr ((Below.refl _ _).alloc (Nat.le_refl _) o))
theorem aK.grown{r:Nat}{ov:Value}{w w':World}(hg:w.grownBy w' ov.ownBlock)(hr:r≤w.heap.size)(h:∀ g,ov.ownBlock=some g→r≤g):aK r ov w w' :=
 ⟨⟨hg.os,hg.tape,hg.output,hg.size,fun k hk=>hg.block k (by omega) fun e=>by have:=h k e.symm;omega⟩,fun b hb _ h2=>hg.block b hb fun e=>h2 e.symm⟩
theorem aK.F7{r:Nat}{ov:Value}{w0 w w':World}(h:aK r ov w0 w){row:Option Nat}(hg:w.grownBy w' row)(hr:r≤w.heap.size)(hn:∀ g,row=some g→r≤g∧w0.heap.size≤g):aK r ov w0 w' :=
 ⟨h.low.trans ⟨hg.os,hg.tape,hg.output,hg.size,fun k hk=>hg.block k (by omega) fun e=>by have:=hn k e.symm;omega⟩,
  fun b hb h1 h2=>by rw[hg.block b (Nat.lt_of_lt_of_le hb h.low.size) fun e=>by have:=hn b e.symm;omega];exact h.block b hb h1 h2⟩
theorem Own.fC{α:Type}{w w':World}{qB E size:Nat}{enc:α→List Value}{v:Value}{xs:List α}(h:Own w qB E size enc v xs)(hb:∀ g,v.ownBlock=some g→w'.heap[g]?=w.heap[g]?):Own w' qB E size enc v xs:=by
 obtain⟨a,cap,rfl,hle,hm,hh⟩:=h
 refine⟨a,cap,rfl,hle,hm,?_⟩
 rcases hh with hh | ⟨g,cur,rfl,hbg,hg,hr⟩
 ·exact .inl hh
 ·exact .inr ⟨g,cur,rfl,hbg,(hb g rfl).trans hg,hr⟩
theorem Own.lQ{α:Type}{w:World}{qB E size:Nat}{enc:α→List Value}{v:Value}{xs:List α}(h:Own w qB E size enc v xs)(g:Nat)(hg:v.ownBlock=some g):qB≤g∧g<w.heap.size:=by
 obtain⟨a,cap,rfl,_,_,hh⟩:=h
 rcases hh with⟨rfl,_⟩ | ⟨g',cur,rfl,hb,hg',_⟩
 ·simp[Value.ownBlock] at hg
 ·simp[Value.ownBlock] at hg;subst hg;exact⟨hb,hg'.lt⟩
structure dX(w:World)(r:Nat)(ov:Value)(m:Nat)(V:Vt):Prop where
 lies:Lies w V
 on:On (fun b=>m≤b∧b≠r∧ov.ownBlock≠some b) V
theorem dX.kept{w w':World}{r m:Nat}{ov pI:Value}{V:Vt}(h:dX w r ov m V)(k:aK r ov w w')(f:dW w ov pI):dX w' r pI m V :=
 ⟨h.lies.eH (h.on.and h.lies.on) fun b ⟨⟨_,h1,h2⟩,h3⟩=>k.block b h3 h1 h2,(h.on.and h.lies.on).mono fun _ ⟨⟨h0,h1,h2⟩,h3⟩=>⟨h0,h1,f.ne h3 h2⟩⟩
theorem dX.fC{w w':World}{r m:Nat}{ov:Value}{V:Vt}(h:dX w r ov m V)(hb:Below w.heap.size w w'):dX w' r ov m V:=⟨h.lies.kept hb,h.on⟩
theorem dX.mono{w:World}{r m m':Nat}{ov:Value}{V:Vt}(h:dX w r ov m V)(hm:m'≤m):dX w r ov m' V:=⟨h.lies,h.on.mono fun _ ⟨h0,h1,h2⟩=>⟨by omega,h1,h2⟩⟩
theorem dX.new{w w':World}{r m:Nat}{ov:Value}{V:Vt}(hl:Lies w' V)(ho:On (fun b=>w.heap.size≤b) V)(hr:r<w.heap.size)(hm:m≤w.heap.size)(hov:∀ g,ov.ownBlock=some g→g<w.heap.size):dX w' r ov m V :=
 ⟨hl,ho.mono fun _ hb=>⟨by omega,by omega,fun e=>by have:=hov _ e;omega⟩⟩
end
section
open Go.RowKit
structure dJ(w:World)(r qB:Nat)(v:Value)(L:List Lx)(ov:Value)(O:List Int):Prop where
 box:Box w r #[v,ov] 275
 sl:ak w v 8 fV L
 far:∀ a n c,v=.slice (some a) n c→a.block≠r∧a.block<qB
 open':Own w qB 3 1 encI ov O
 ok:∀ x∈L,pY x
theorem dJ.kept{w w':World}{r qB:Nat}{v ov:Value}{L:List Lx}{O:List Int}(h:dJ w r qB v L ov O)(hb:Below w.heap.size w w'):dJ w' r qB v L ov O:=⟨h.box.kept hb,h.sl.kept hb,h.far,h.open'.kept hb,h.ok⟩
theorem dJ.cells{w:World}{r qB:Nat}{v ov:Value}{L:List Lx}{O:List Int}(h:dJ w r qB v L ov O):w.cell? ⟨r,0,none⟩=some v∧w.cell? ⟨r,1,none⟩=some ov:=⟨h.box.cell 0,h.box.cell 1⟩
def iZ:List Lx→Nat
 | []=>0
 | a::_=>a.kind
theorem Ia(r qB:Nat)(v ov:Value)(L:List Lx)(O:List Int)(w:World)(h:dJ w r qB v L ov O) :
  Calls Tryz.prog 233 #[.pointer (some ⟨r,0,none⟩)] w (fun e w'=>e=.returned (.int .i64 (iZ L))∧Below w.heap.size w w'):=by
 obtain⟨x0,x1⟩:=h.cells
 obtain⟨a,b,o,cap,rfl,hle,hm,ha,hx⟩:=h.sl
 cases L with
 | nil =>
  clear h ha hx
  go_enter Tryz.func233,Tryz.ntmps233
  go_wp2
  go_ret
  exact⟨rfl,Below.refl _ _⟩
 | cons q L =>
  have ha2:a=some ⟨b,o,none⟩:=by
   rcases ha with ha | ⟨ha,_⟩
   ·exact ha
   ·cases ha
  subst ha2
  have y0:=hx 0 (by simp) 0 (.int .i64 q.kind) rfl
  have hn:0<(q::L).length:=by simp
  have e2:(((q::L).length:Int)==0)=false:=by simp;omega
  simp only[Nat.zero_mul,Nat.add_zero] at y0
  clear h ha hx
  generalize (q::L).length=n at *
  go_enter Tryz.func233,Tryz.ntmps233
  go_wp2
  go_ret
  exact⟨rfl,Below.refl _ _⟩
theorem ak.tail{α:Type}{w:World}{b o n cap size:Nat}{enc:α→List Value}{x:α}{xs:List α}(h:ak w (.slice (some ⟨b,o,none⟩) n cap) size enc (x::xs)) :
  ak w (.slice (if cap=1 then some ⟨b,o,none⟩ else some ⟨b,o+size,none⟩) xs.length (cap - 1)) size enc xs:=by
 obtain⟨a',b',o',cap',hv,hle,hm,ha,hx⟩:=h
 obtain⟨rfl,_,rfl⟩:=Value.slice.inj hv
 rw[List.length_cons] at hle
 rcases ha with ha | ⟨ha,_⟩
 ·simp only[Option.some.injEq,Addr.mk.injEq] at ha
  obtain⟨rfl,rfl,_⟩:=ha
  by_cases h1:cap=1
  ·rw[if_pos h1]
   refine⟨_,b,o,_,rfl,by omega,by omega,.inl rfl,fun i hi=>by omega⟩
  ·rw[if_neg h1]
   refine⟨_,b,o+size,_,rfl,by omega,by omega,.inl rfl,fun i hi j u hu=>?_⟩
   have:=hx (i+1) (by simp;omega) j u (by simpa using hu)
   rw[show o+size+i*size+j=o+(i+1)*size+j by rw[Nat.add_mul];omega]
   exact this
 ·cases ha
def aem(r qB:Nat)(ov:Value)(L:List Lx)(O:List Int)(w:World)(u:Value)(e:Ending)(w':World):Prop :=
 e=.returned u∧(∃ v,dJ w' r qB v L ov O)∧aK r ov w w'
theorem dJ.frame{w w':World}{r qB:Nat}{v ov:Value}{L:List Lx}{O:List Int}(h:dJ w r qB v L ov O)(hr:r<qB)(hb:∀ b,b<qB∨ov.ownBlock=some b→w'.heap[b]?=w.heap[b]?):dJ w' r qB v L ov O:=by
 refine⟨(hb r (.inl hr)).trans h.box,?_,h.far,h.open'.fC fun g hg=>hb g (.inr hg),h.ok⟩
 obtain⟨a,b,o,cap,rfl,_⟩:=id h.sl
 exact h.sl.eH fun _ ad e=>hb _ (.inl (h.far ad _ _ (by rw[e])).2)
theorem dJ.set{w:World}{r qB:Nat}{v ov:Value}{L:List Lx}{O:List Int}(h:dJ w r qB v L ov O)(hr:r<qB){a:Addr}(ha:qB≤a.block)(ho:ov.ownBlock≠some a.block)(u:Value):dJ (w.setCell a u) r qB v L ov O :=
 h.frame hr fun b hb=>heap_setCell_other w a b u (by rintro rfl;rcases hb with hb | hb;omega;exact ho hb)
theorem dJ.ov{w:World}{r qB:Nat}{v ov:Value}{L:List Lx}{O:List Int}(h:dJ w r qB v L ov O)(g:Nat)(hg:ov.ownBlock=some g):qB≤g∧g<w.heap.size:=h.open'.lQ g hg
theorem dJ.step{w:World}{r qB:Nat}{v ov:Value}{M L:List Lx}{O:List Int}(h:dJ w r qB v M ov O)(hr:r<qB){a':Option Addr}{n c b:Nat}(ha:∀ a,a'=some a→a.block=b)(hb1:b≠r)(hb2:b<qB)(hs:ak w (.slice a' n c) 8 fV L)(hok:∀ x∈L,pY x) :
  dJ (w.setCell ⟨r,0,none⟩ (.slice a' n c)) r qB (.slice a' n c) L ov O :=
 ⟨h.box.set 0 _,(ay.set (qB:=qB) w 0 _).cells.slice hs (fun _ ad e=>by have:=ha ad e;show ¬ (ad.block=r∨qB≤ad.block);omega),fun a n' c' e=>by cases e;have:=ha a rfl;omega,h.open'.other _ _ hr,hok⟩
theorem ahb{w:World}{r qB:Nat}{v ov:Value}{M L:List Lx}{O:List Int}{u:Value}(h:dJ w r qB v M ov O)(hr:r<qB)(hb:qB≤w.heap.size){a':Option Addr}{n c b E:Nat}(cs:Array Value)(ha:∀ a,a'=some a→a.block=b)(hb1:b≠r)(hb2:b<qB)(hs:ak w (.slice a' n c) 8 fV L)(hok:∀ x∈L,pY x) :
  Box (((w.setCell ⟨r,0,none⟩ (.slice a' n c)).alloc (.cells cs E)).alloc (.cells cs E)) w.heap.size cs E ∧
  aem r qB ov L O w u (.returned u) (((w.setCell ⟨r,0,none⟩ (.slice a' n c)).alloc (.cells cs E)).alloc (.cells cs E)):=by
 have h1:=h.step hr ha hb1 hb2 hs hok
 have hB:Below (w.setCell ⟨r,0,none⟩ (.slice a' n c)).heap.size (w.setCell ⟨r,0,none⟩ (.slice a' n c)) (((w.setCell ⟨r,0,none⟩ (.slice a' n c)).alloc (.cells cs E)).alloc (.cells cs E)) :=
  ((Below.refl _ _).alloc (Nat.le_refl _) _).alloc (by simp) _
 refine⟨(Box.new' (by simp) cs E).alloc _,rfl,⟨_,h1.kept hB⟩,(aK.set w 0 _).tr (aK.below (by simp;omega) hB)⟩
theorem uO(r qB:Nat)(v ov:Value)(q:Lx)(L:List Lx)(O:List Int)(w:World)(h:dJ w r qB v (q::L) ov O)(hr:r<qB)(hb:qB≤w.heap.size) :
  Calls Tryz.prog 234 #[.pointer (some ⟨r,0,none⟩)] w (aem r qB ov L O w (.agg (fV q).toArray)):=by
 have h1:=h.kept (aj w (.cells (fV ⟨0,0,0,0,0⟩).toArray 221))
 obtain⟨x0,x1⟩:=h.cells
 obtain⟨a,b,o,cap,rfl,hle,hm,ha,hx⟩:=h.sl
 have ha2:a=some ⟨b,o,none⟩:=by
  rcases ha with ha | ⟨ha,_⟩
  ·exact ha
  ·cases ha
 subst ha2
 have hn:0<(q::L).length:=by simp
 have y:∀ j u,(fV q)[j]?=some u→w.cell? ⟨b,o+j,none⟩=some u:=fun j u hu=>by have:=hx 0 (by simp) j u hu;rwa[Nat.zero_mul,Nat.add_zero] at this
 have y0:=y 0 _ rfl
 have y1:=y 1 _ rfl
 have y2:=y 2 _ rfl
 have y3:=y 3 _ rfl
 have y4:=y 4 _ rfl
 have y5:=y 5 _ rfl
 have y6:=y 6 _ rfl
 have y7:=y 7 _ rfl
 have hT:=h.sl.tail
 have hrl:=h.box.lt
 have hbl:b<w.heap.size:=World.block_lt_of_cell? w _ y0
 have f0:=h.box.free 0
 have hL:(q::L).length - 1=L.length:=by simp
 have ahc:=h.far _ _ _ rfl
 have HF:=ah fun(a':Option Addr) (ha:∀ a:Addr,a'=some a→a.block=b) (hs:ak w (.slice a' L.length (cap - 1)) 8 fV L)=>ahb (u:=.agg (fV q).toArray) (E:=221) (n:=L.length) (c:=cap - 1) h hr hb (fV q).toArray ha ahc.1 ahc.2 hs (fun x hx=>h.ok x (List.mem_cons_of_mem _ hx))
 simp only[Nat.add_zero] at y0
 clear h h1 ha hx y
 generalize hN:(q::L).length=n at *
 go_enter Tryz.func234,Tryz.ntmps234
 go_wp2
 ·have h1:cap=1:=by assumption
  subst h1
  obtain⟨hX,hR⟩:=HF.out (some ⟨b,o,none⟩) (fun a e=>by cases e;rfl) (by rw[if_pos rfl] at hT;exact hT)
  exact cZ Tryz.results234 rfl hX Tryz.underlying221 rfl Jv rfl hR
 ·have h1:¬ cap=1:=by assumption
  obtain⟨hX,hR⟩:=HF.out (some ⟨b,o+8,none⟩) (fun a e=>by cases e;rfl) (by rw[if_neg h1] at hT;exact hT)
  exact cZ Tryz.results234 rfl hX Tryz.underlying221 rfl Jv rfl hR
end
section
open Go.RowKit
def Xw(k p:Nat)(e:Ending):Prop:=e=.panicked [{ v:=.iface 66 (dZ k p),recovered:=false }]
theorem o9(k p:Nat)(w:World):Calls Tryz.prog 281 #[.int .i64 k,.int .i64 p] w (fun e w'=>Xw k p e∧Below w.heap.size w w'):=by
 go_enter Tryz.func281,Tryz.ntmps281
 go_wp2
 exact⟨rfl,rfl,Below.refl _ _⟩
theorem Xx(k:Int)(ps:Nat)(V:Vt)(w:World)(h:Box w ps V.cells.toArray 115) :
  Calls Tryz.prog 282 #[.int .i64 k,.pointer (some ⟨ps,0,none⟩)] w (fun e w'=>e=.returned (.agg (aC k 0 (some ⟨w.heap.size+1,0,none⟩) 1 1 0 0).toArray)∧ak w' (.slice (some ⟨w.heap.size+1,0,none⟩) 1 1) 8 Vt.cells [V]∧Below w.heap.size w w'):=by
 have hz:aC k 0 (some ⟨w.heap.size+1,0,none⟩) 1 1 0 0=[.int .i64 k,.int .u64 0,.int .u64 0,.int .u64 0,.int .u64 0,.slice (some ⟨w.heap.size+1,0,none⟩) 1 1,.int .i64 0,.int .i64 0]:=by simp only[aC,qK];rfl
 rw[hz]
 have hS:=fun(w0:World)=>qL D6 w0 115 [V] (by simp[maxLen])
 have hlt:=h.lt
 obtain⟨k1,s1,a1,Bj,yY,lo1,hi1⟩:=V
 have y0:w.cell? ⟨ps,0,none⟩=some (.int .i64 k1):=h.cell 0
 have y1:w.cell? ⟨ps,1,none⟩=some (.int .u64 (word s1 0:Nat)):=h.cell 1
 have y2:w.cell? ⟨ps,2,none⟩=some (.int .u64 (word s1 1:Nat)):=h.cell 2
 have y3:w.cell? ⟨ps,3,none⟩=some (.int .u64 (word s1 2:Nat)):=h.cell 3
 have y4:w.cell? ⟨ps,4,none⟩=some (.int .u64 (word s1 3:Nat)):=h.cell 4
 have y5:w.cell? ⟨ps,5,none⟩=some (.slice a1 yY.length Bj):=h.cell 5
 have y6:w.cell? ⟨ps,6,none⟩=some (.int .i64 lo1):=h.cell 6
 have y7:w.cell? ⟨ps,7,none⟩=some (.int .i64 hi1):=h.cell 7
 have HS:=ah hS
 clear h hz hS
 go_enter Tryz.func282,Tryz.ntmps282
 go_wp2
 exact cZ Tryz.results282 rfl (cs:=#[.int .i64 k,.int .u64 0,.int .u64 0,.int .u64 0,.int .u64 0,.slice (some ⟨w.heap.size+1,0,none⟩) 1 1,.int .i64 0,.int .i64 0]) ((Box.new _ _ _).alloc _) Tryz.underlying115 rfl (by kernel_rfl) rfl ⟨rfl,by have:=HS.out (w.alloc (.cells #[.int .i64 k,.int .u64 0,.int .u64 0,.int .u64 0,.int .u64 0,.slice (some ⟨w.heap.size+1,0,none⟩) 1 1,.int .i64 0,.int .i64 0] 115));rw[World.size_alloc] at this;exact this,by go_grown⟩
end
end Go.Proofs.YtengfapcaaacaaaGreatDoor
