/- The texts of N14, in few letters (mini.py). -/
import Derived.Test.YtengfapcaaacaaaGreatDoorM13
set_option linter.unusedVariables false
set_option linter.unusedSimpArgs false
set_option maxHeartbeats 3200000
set_option maxRecDepth 20000
namespace Go.Proofs.YtengfapcaaacaaaGreatDoor
section
open Go.RowKit
def afL(w:World)(r:Option (Nat×Nat))(e:Ending)(w':World):Prop :=
 match r with
 | some (v,q)=>aY w (.tuple #[.int .i64 v,.int .i64 q,.int .i64 0]) e w'
 | none=>∃ c:Nat,c≠0∧aY w (.tuple #[.int .i64 0,.int .i64 0,.int .i64 c]) e w'
theorem acH(b o cap n p:Nat)(l:List UInt8)(w:World)(h:ak w (.slice (some ⟨b,o,none⟩) n cap) 1 bK l)(hp:p≤n) :
  Calls Tryz.prog 251 #[.slice (some ⟨b,o,none⟩) n cap,.int .i64 p,.int .i64 1000] w (afL w (takeN 1000 l p)):=by
 obtain⟨hlen,hcap,hcap',_⟩:=h.cellsA
 have hrun:=fun w1 hb=>Zx b o cap n p l w1 (h.kept (w':=w1) hb) hp
 have hle:=Dk (l.drop p)
 rw[List.length_drop] at hle
 have hsub:=fun w1 hb=>(h.kept (w':=w1) hb).sub p (iW (l.drop p)) (by omega)
 unfold takeN
 have hl2:((l.drop p).take (iW (l.drop p))).length=iW (l.drop p):=by rw[List.length_take,List.length_drop];omega
 have hrd:=fun w1=>acp ((l.drop p).take (iW (l.drop p))) 1000 w1 (by rw[hl2];omega) (by omega) (by omega)
 generalize ((l.drop p).take (iW (l.drop p)))=s at *
 generalize iW (l.drop p)=r at *
 obtain⟨q,hif,_⟩:=Oz b o cap p
 rw[hif] at hsub
 unfold CB at hif
 have hcv:∀ w1,Below w.heap.size w w1→(convert 35 9 (.slice (some ⟨b,q,none⟩) r (cap - p))).run Tryz.prog w1=.ok (sv s) w1:=fun w1 hb =>
  FH (P:=Tryz.prog) (src:=35) (dst:=9) Tryz.underlying35 Tryz.underlying5 Tryz.underlying9 hl2.symm (hsub w1 hb)
 have zX:=ah hrun
 have VH:=ah hcv
 have zh:=ah hrd
 have e1:decide ((p:Int)<0)=false:=by simp
 have e2:decide ((n:Int)<(p:Int))=false:=by simp;omega
 have w1':IntKind.i64.wrap ((p:Int)+(r:Int))=((p+r:Nat):Int):=by rw[IntWalk.i64_in _ (by omega)];omega
 have p0:(0:Int)≤(p:Int):=by omega
 have p1:(p:Int)≤(p:Int)+(r:Int):=by omega
 have p2:(p:Int)+(r:Int)≤(cap:Int):=by omega
 clear hrun hcv hrd hsub hle hl2 h hlen hcap
 unfold Xl at zh
 cases hf:H8 s with
 | false =>
  rw[hf] at zh
  simp only[Bool.false_eq_true,if_false] at zh ⊢
  go_enter Tryz.func251,Tryz.ntmps251
  go_wp2_with fail
  refine(zX.out _ (Below.refl _ _)).mono ?_
  rintro e w3 ⟨rfl,hB3⟩
  have ag1:=VH.out w3 hB3
  go_wp2_with fail
  refine(zh.out _).mono ?_
  rintro e w4 ⟨rfl,hB4⟩
  go_wp2
  go_ret3
  exact⟨3,by decide,rfl,hB3.trans (hB4.mono hB3.size)⟩
 | true =>
  rw[hf] at zh
  simp only[if_true] at zh ⊢
  cases hv:qW 1000 0 s with
  | none =>
   rw[hv] at zh
   go_enter Tryz.func251,Tryz.ntmps251
   go_wp2_with fail
   refine(zX.out _ (Below.refl _ _)).mono ?_
   rintro e w3 ⟨rfl,hB3⟩
   have ag1:=VH.out w3 hB3
   go_wp2_with fail
   refine(zh.out _).mono ?_
   rintro e w4 ⟨rfl,hB4⟩
   go_wp2
   go_ret3
   exact⟨2,by decide,rfl,hB3.trans (hB4.mono hB3.size)⟩
  | some x =>
   rw[hv] at zh
   go_enter Tryz.func251,Tryz.ntmps251
   go_wp2_with fail
   refine(zX.out _ (Below.refl _ _)).mono ?_
   rintro e w3 ⟨rfl,hB3⟩
   have ag1:=VH.out w3 hB3
   go_wp2_with fail
   refine(zh.out _).mono ?_
   rintro e w4 ⟨rfl,hB4⟩
   go_wp2
   go_ret3
   exact⟨rfl,hB3.trans (hB4.mono hB3.size)⟩
end
section
open Go.RowKit
theorem mZ.over{r qB:Nat}{g:Nat×Nat}{n cap i:Nat}{l:List UInt8}{X:List Lx}{k p:Nat}{w w1:World}{u:Value}{e:Ending}{w':World}(ho:ay r qB w w1)(h:mZ r qB g n cap i l X k p w1 u e w'):mZ r qB g n cap i l X k p w u e w':=⟨h.1,h.2.1,ho.trans h.2.2⟩
abbrev ag2(k:Nat)(s:au)(lo hi:Int):Value:=.agg #[.int .i64 k,.int .i64 0,.int .u64 (word s 0:Nat),.int .u64 (word s 1:Nat),.int .u64 (word s 2:Nat),.int .u64 (word s 3:Nat),.int .i64 lo,.int .i64 hi]
theorem bJ.byte{w:World}{r qB:Nat}{g:Nat×Nat}{n cap i:Nat}{l:List UInt8}{X:List Lx}{v:Value}{k p:Nat}(h:bJ w r qB g n cap i l X v k p):n=l.length∧n≤9223372036854775807∧∀ j (hj:j<l.length),w.cell? ⟨g.1,g.2+j,none⟩=some (.int .u8 (l[j]).toNat):=by
 obtain⟨h1,h2,h3,h4⟩:=h.sl.cellsA
 exact⟨h1,by omega,fun j hj=>h4 j hj w (Below.refl _ _)⟩
theorem zK(r qB:Nat)(g:Nat×Nat)(n cap i:Nat)(l:List UInt8)(X:List Lx)(v:Value)(k p:Nat)(kd:Nat)(w:World)(h:bJ w r qB g n cap i l X v k p)(hr:r<qB) :
  Calls Tryz.prog 228 #[.pointer (some ⟨r,0,none⟩),.int .i64 kd] w (mZ r qB g n cap i l X kd i w (.tuple #[])):=by
 obtain⟨x0,x1,x2,x3,x4⟩:=h.cells
 have f3:=h.box.free 3
 have f4:=h.box.free 4
 have HS:=ah h
 clear h
 go_enter Tryz.func228,Tryz.ntmps228
 go_wp2
 go_end0
 obtain⟨a,c,rfl⟩:=HS.out.form
 exact⟨rfl,⟨a,c,HS.out.fault hr kd i⟩,(ay.set _ _ _).trans (ay.set _ _ _)⟩
theorem VI(r qB:Nat)(g:Nat×Nat)(n cap i:Nat)(l:List UInt8)(X:List Lx)(v:Value)(k p:Nat)(kd:Nat)(s:au)(lo hi:Int)(next:Nat)(w:World)(h:bJ w r qB g n cap i l X v k p)(hr:r<qB)(hb:qB≤w.heap.size)(hX:X.length≤4294967296) :
  Calls Tryz.prog 253 #[.pointer (some ⟨r,0,none⟩),ag2 kd s lo hi,.int .i64 next] w (mZ r qB g n cap next l (X++[⟨kd,i,s,lo,hi⟩]) k p w (.tuple #[])) :=
 ag0 r qB g n cap i l X v k p ⟨kd,0,s,lo,hi⟩ next w h hr hb hX
theorem H9(r qB:Nat)(g:Nat×Nat)(n cap i:Nat)(l:List UInt8)(X:List Lx)(v:Value)(k p:Nat)(kd:Nat)(lo hi:Int)(next:Nat)(w:World)(h:bJ w r qB g n cap i l X v k p)(hr:r<qB)(hb:qB≤w.heap.size)(hX:X.length≤4294967296) :
  Calls Tryz.prog 253 #[.pointer (some ⟨r,0,none⟩),.agg #[.int .i64 kd,.int .i64 0,.int .u64 0,.int .u64 0,.int .u64 0,.int .u64 0,.int .i64 lo,.int .i64 hi],.int .i64 next] w (mZ r qB g n cap next l (X++[⟨kd,i,0,lo,hi⟩]) k p w (.tuple #[])):=by
 have:=VI r qB g n cap i l X v k p kd 0 lo hi next w h hr hb hX
 simp only[ag2,qK] at this
 exact this
theorem KW(r qB:Nat)(g:Nat×Nat)(n cap i:Nat)(l:List UInt8)(X:List Lx)(v:Value)(k p:Nat)(s:au)(next:Nat)(w:World)(h:bJ w r qB g n cap i l X v k p)(hr:r<qB)(hb:qB≤w.heap.size)(hX:X.length≤4294967296) :
  Calls Tryz.prog 225 #[.pointer (some ⟨r,0,none⟩),iK s,.int .i64 next] w (mZ r qB g n cap next l (X++[⟨1,i,s,0,0⟩]) k p w (.tuple #[])):=by
 have h1:=h.kept (aj w (.cells (bT s) 113))
 have hk1:=ay.below (qB:=qB) (by omega:r≤w.heap.size) (aj w (.cells (bT s) 113))
 have hx:=Box.new w (bT s) 113
 have hp:=fun w1 h1 hb1=>VI r qB g n cap i l X v k p 1 s 0 0 next w1 h1 hr hb1 hX
 obtain⟨⟨c0,c1,c2,c3⟩,_⟩:=hx.jv
 have HP:=ah (hp _ h1 (by simp;omega))
 clear hp h h1 hx
 go_enter Tryz.func225,Tryz.ntmps225
 go_wp2_with (go_at_call 253;go_must (refine HP.out.mono ?_;rintro e w3 ⟨rfl,hS3,hK3⟩))
 go_end0
 exact⟨rfl,hS3,hk1.trans hK3⟩
def pX(r qB:Nat)(g:Nat×Nat)(n cap i:Nat)(l:List UInt8)(X:List Lx)(k p:Nat)(w:World)(c:Nat)(e:Ending)(w':World):Prop :=
 if mX c=0 then aY w (.bool false) e w' else mZ r qB g n cap (i+1) l (X++[⟨mX c,i,0,0,0⟩]) k p w (.bool true) e w'
theorem afM(r qB:Nat)(g:Nat×Nat)(n cap i:Nat)(l:List UInt8)(X:List Lx)(v:Value)(k p:Nat)(w:World)(h:bJ w r qB g n cap i l X v k p)(hr:r<qB)(hb:qB≤w.heap.size)(hX:X.length≤4294967296)(hi:i<l.length) :
  Calls Tryz.prog 229 #[.pointer (some ⟨r,0,none⟩)] w (pX r qB g n cap i l X k p w (l[i]).toNat):=by
 obtain⟨hlen,hn63,hbyte⟩:=h.byte
 have hby:=fun u (hu:bJ u r qB g n cap i l X v k p)=>hu.byte.2.2 i hi
 clear hbyte
 generalize (l[i]).toNat=c at *
 have hi0:(0:Int)≤(i:Int):=by omega
 have hin:(i:Int)<(n:Int):=by omega
 have hw1:IntKind.i64.wrap ((i:Int)+1)=((i+1:Nat):Int):=by rw[IntWalk.i64_in _ (by omega)];omega
 have yE:=ah hby
 have HF:Hid (∀ u,Later w.drew u→bJ u r qB g n cap i l X v k p∧ay r qB w u∧Below w.heap.size w u):=ah fun u hl=>⟨(h.kept (Below.refl _ _).drew).kept hl,(ay.below (qB:=qB) (by omega) (Below.refl w.heap.size w).drew).trans (ay.below (by show r≤w.heap.size;omega) hl),(Below.refl _ w).drew.trans (Below.mono hl (Nat.le_refl _))⟩
 have HP:=ah fun kind w1 h1 hb1=>H9 r qB g n cap i l X v k p kind 0 0 (i+1) w1 h1 hr hb1 hX
 clear hby h hlen
 go_enter Tryz.func229,Tryz.ntmps229
 go_wp2_with fail
 refine aA (R:=Later) 10 (by kernel_rfl) ?_
 refine pl [0,1,2,3,4,5,6,7,8,9] ?_
 repeat
  refine dI ?_ rfl (fun w1 hl=>?_) ?_
  rotate_left
  ·have hS:=(HF.out w1 hl).1;obtain⟨x0,x1,x2,x3,x4⟩:=hS.cells;have c0:=yE.out w1 hS;go_simp;try with_reducible rfl
  simp only[eA,eB,eC,Act.put,eD,eE,eF]
 refine bU ?_
 refine aH (by kernel_rfl) (fun w1 hl=>?_) _
 obtain⟨hS,hK,hB⟩:=HF.out w1 hl
 obtain⟨x0,x1,x2,x3,x4⟩:=hS.cells
 have hsz:=hK.others.size
 clear hl HF yE
 by_cases IG:c=40
 ·have e40:((c:Int)==40)=true:=by rw[IG];rfl
  have sk:=ah (show mX c=2 by rw[IG];rfl)
  clear IG
  go_wp2_with (go_at_call 253;go_must (refine(HP.out 2 _ hS (by omega)).mono ?_;rintro e w3 ⟨rfl,hS3,hK3⟩))
  go_ret
  unfold pX
  rw[if_neg (by rw[sk.out];decide),sk.out]
  exact⟨rfl,hS3,hK.trans hK3⟩
 have e40:((c:Int)==40)=false:=by simp;omega
 by_cases KX:c=41
 ·have e41:((c:Int)==41)=true:=by rw[KX];rfl
  have sk:=ah (show mX c=3 by rw[KX];rfl)
  clear IG KX
  go_wp2_with (go_at_call 253;go_must (refine(HP.out 3 _ hS (by omega)).mono ?_;rintro e w3 ⟨rfl,hS3,hK3⟩))
  go_ret
  unfold pX
  rw[if_neg (by rw[sk.out];decide),sk.out]
  exact⟨rfl,hS3,hK.trans hK3⟩
 have e41:((c:Int)==41)=false:=by simp;omega
 by_cases FX:c=124
 ·have alP:((c:Int)==124)=true:=by rw[FX];rfl
  have sk:=ah (show mX c=4 by rw[FX];rfl)
  clear IG KX FX
  go_wp2_with (go_at_call 253;go_must (refine(HP.out 4 _ hS (by omega)).mono ?_;rintro e w3 ⟨rfl,hS3,hK3⟩))
  go_ret
  unfold pX
  rw[if_neg (by rw[sk.out];decide),sk.out]
  exact⟨rfl,hS3,hK.trans hK3⟩
 have alP:((c:Int)==124)=false:=by simp;omega
 by_cases RF:c=42
 ·have e42:((c:Int)==42)=true:=by rw[RF];rfl
  have sk:=ah (show mX c=5 by rw[RF];rfl)
  clear IG KX FX RF
  go_wp2_with (go_at_call 253;go_must (refine(HP.out 5 _ hS (by omega)).mono ?_;rintro e w3 ⟨rfl,hS3,hK3⟩))
  go_ret
  unfold pX
  rw[if_neg (by rw[sk.out];decide),sk.out]
  exact⟨rfl,hS3,hK.trans hK3⟩
 have e42:((c:Int)==42)=false:=by simp;omega
 by_cases VJ:c=43
 ·have e43:((c:Int)==43)=true:=by rw[VJ];rfl
  have sk:=ah (show mX c=6 by rw[VJ];rfl)
  clear IG KX FX RF VJ
  go_wp2_with (go_at_call 253;go_must (refine(HP.out 6 _ hS (by omega)).mono ?_;rintro e w3 ⟨rfl,hS3,hK3⟩))
  go_ret
  unfold pX
  rw[if_neg (by rw[sk.out];decide),sk.out]
  exact⟨rfl,hS3,hK.trans hK3⟩
 have e43:((c:Int)==43)=false:=by simp;omega
 by_cases Zy:c=63
 ·have e63:((c:Int)==63)=true:=by rw[Zy];rfl
  have sk:=ah (show mX c=7 by rw[Zy];rfl)
  clear IG KX FX RF VJ Zy
  go_wp2_with (go_at_call 253;go_must (refine(HP.out 7 _ hS (by omega)).mono ?_;rintro e w3 ⟨rfl,hS3,hK3⟩))
  go_ret
  unfold pX
  rw[if_neg (by rw[sk.out];decide),sk.out]
  exact⟨rfl,hS3,hK.trans hK3⟩
 have e63:((c:Int)==63)=false:=by simp;omega
 have sk:=ah (show mX c=0 by unfold mX;simp only[IG,KX,FX,RF,VJ,Zy,if_false])
 clear IG KX FX RF VJ Zy
 go_wp2
 go_ret
 unfold pX
 rw[if_pos sk.out]
 exact⟨rfl,hB⟩
end
section
open Go.RowKit
theorem NH{l:List UInt8}{i kd ps:Nat}(h:mM l i=.inl (kd,ps)):kd=14:=by
 unfold mM at h
 repeat' split at h
 all_goals first | (cases h;rfl) | cases h
def ag3:Sum (Nat×Nat) (Nat×Nat)→Value
 | .inl (kd,ps)=>.tuple #[.int .u8 0,.int .i64 0,dZ kd ps]
 | .inr (x,j)=>.tuple #[.int .u8 x,.int .i64 j,dZ 0 0]
theorem Bv{P:Program}{fn:Func}{R:Ending→World→Prop}{a:Act}{w:World}{p u q:Tmp}{vK b2 E2:Nat}{cs2:Array Value}{d2:TypeDesc}{v v1:Value}
  (hr:fn.results=#[.tmp p,.tmp u,.cell q vK]) (hp:a.tmps.getD p undef=v1) (hv:a.tmps.getD u undef=v) (hq:a.tmps.getD q undef=.pointer (some ⟨b2,0,none⟩)) (hb2:Box w b2 cs2 E2)
  (hu2:P.underlying vK=some d2) (hd2:(match d2 with | .struct _ | .array _ _=>true | _=>false)=true) (hi2:(P.info? vK).map (·.size)=some cs2.size)
  (hdf:a.defers=[]) (hR:R (.returned (.tuple #[v1,v,.agg cs2])) w):bodyPost P fn R .ret a w :=
 ⟨hdf,_,by
  have hp':a.tmps[p]?.getD undef=v1:=by simpa using hp
  have hv':a.tmps[u]?.getD undef=v:=by simpa using hv
  have hq':a.tmps[q]?.getD undef=.pointer (some ⟨b2,0,none⟩):=by simpa using hq
  simp[results,hr,hp',hv',hq',asAddr,run_loadVar_row w b2 E2 vK cs2 (0,0) d2 hb2 hu2 hd2 hi2],hR⟩
structure xE(w W:World)(g:Nat×Nat)(n cap i k p:Nat)(l:List UInt8):Prop where
 x0:Box W w.heap.size #[.int .i64 0,.int .i64 0] 66
 rd:eY W (w.heap.size+1) g n cap i 0 k p l
 below:Below w.heap.size w W
theorem xE.kept{w W W':World}{g:Nat×Nat}{n cap i k p:Nat}{l:List UInt8}(h:xE w W g n cap i k p l)(hb:Below W.heap.size W W'):xE w W' g n cap i k p l:=⟨h.x0.kept hb,h.rd.kept hb,h.below.trans (hb.mono h.below.size)⟩
theorem xE.step{w W W':World}{g:Nat×Nat}{n cap i k p i' k' p':Nat}{l:List UInt8}(h:xE w W g n cap i k p l)(hr:eY W' (w.heap.size+1) g n cap i' 0 k' p' l)(ho:Only (w.heap.size+1) W W'):xE w W' g n cap i' k' p' l :=
 ⟨ho.box h.x0 (by omega),hr,h.below.trans (ho.1.mono (by omega))⟩
theorem xE.start{g:Nat×Nat}{n cap i:Nat}{l:List UInt8}{w:World}(h:ak w (.slice (some ⟨g.1,g.2,none⟩) n cap) 1 bK l)(hg:g.1<w.heap.size) :
  xE w ((w.alloc (.cells #[.int .i64 0,.int .i64 0] 66)).alloc (.cells #[.slice (some ⟨g.1,g.2,none⟩) n cap,.int .i64 i,.int .i64 0,.int .i64 0,.int .i64 0] 354)) g n cap i 0 0 l:=by
 have hb:Below w.heap.size w ((w.alloc (.cells #[.int .i64 0,.int .i64 0] 66)).alloc (.cells #[.slice (some ⟨g.1,g.2,none⟩) n cap,.int .i64 i,.int .i64 0,.int .i64 0,.int .i64 0] 354)):=((Below.refl _ w).alloc (Nat.le_refl _) _).alloc (by simp) _
 exact⟨(Box.new' rfl _ _).alloc _,⟨Box.new' (by simp) _ _,h.kept hb,by omega⟩,hb⟩
theorem FY(g:Nat×Nat)(n cap i:Nat)(l:List UInt8)(w:World)(h:ak w (.slice (some ⟨g.1,g.2,none⟩) n cap) 1 bK l)(hg:g.1<w.heap.size)(KY:aX l i 92=true) :
  Calls Tryz.prog 248 #[.slice (some ⟨g.1,g.2,none⟩) n cap,.int .i64 i] w (aY w (ag3 (mM l i))):=by
 have hlen:n=l.length:=h.cellsA.1
 have hin:=iO KY
 have hS:=xE.start (i:=i) h hg
 have hH:∀ W,xE w W g n cap i 0 0 l→Calls Tryz.prog 274 #[.pointer (some ⟨w.heap.size+1,0,none⟩),.int .u8 92] W (aY W (.bool true)):=fun W hw=>by
  have:=Eb (w.heap.size+1) g n cap i 0 0 0 l 92 W hw.rd
  rw[KY] at this;exact this
 have hE:=fun W (hw:xE w W g n cap i 0 0 l)=>EM (w.heap.size+1) g n cap i 0 0 l W hw.rd (by omega)
 have h14:=@NH l i
 have HH:=ah hH
 have HS:=ah hS
 clear hH hS h KY hlen hin
 cases hr:mM l i with
 | inl q =>
  obtain⟨kd,ps⟩:=q
  obtain rfl:=h14 hr
  rw[hr] at hE
  have HE:=ah hE
  clear h14 hr hE
  go_enter Tryz.func248,Tryz.ntmps248
  go_wp2_with fail
  refine(HH.out _ HS.out).mono ?_
  rintro e w1 ⟨rfl,hB1⟩
  have hS1:=HS.out.kept hB1
  go_wp2_with fail
  refine(HE.out _ hS1).mono ?_
  rintro e w2 ⟨c,j,hc,hj,rfl,hR2,hO2⟩
  have hS2:=hS1.step hR2 hO2
  obtain⟨x0,x1,x2,x3,x4⟩:=hR2.cells
  have HF:Hid (∀ u,Later w2.drew u→xE w u g n cap j 14 ps l):=ah fun u hl=>(hS2.kept (Below.refl _ _).drew).kept hl
  clear hS2 hS1 hB1 hR2 hO2
  go_wp2_with fail
  refine aA (R:=Later) 4 (by kernel_rfl) ?_
  refine pl [0,1,2,3] ?_
  repeat
   refine dI ?_ rfl (fun w1 hl=>?_) ?_
   rotate_left
   ·obtain⟨x0,x1,x2,x3,x4⟩:=(HF.out w1 hl).rd.cells;go_simp;try with_reducible rfl
   simp only[eA,eB,eC,Act.put,eD,eE,eF]
  refine bU ?_
  refine aP (t:=4) (i:=4) (by kernel_rfl) rfl (fun w1 hl K hK=>?_)
  have hS3:=HF.out w1 hl
  have r0:=hS3.x0.cell 0
  have r1:=hS3.x0.cell 1
  have s0:=hS3.x0.free 0
  have s1:=hS3.x0.free 1
  go_simp
  refine hK.out _ _ (fun h=>absurd rfl h) ?_
  clear hK K r0 r1 s0 s1 x0 x1 x2 x3 x4
  have hX:=(hS3.x0.set 0 (.int .i64 14)).set 1 (.int .i64 ps)
  have hB:=(hS3.below.setCell (p:=⟨w.heap.size,0,none⟩) (by simp) (.int .i64 14)).setCell (p:=⟨w.heap.size,1,none⟩) (by simp) (.int .i64 ps)
  clear hS3 HF hl
  refine aH (by kernel_rfl) (fun w1 hl=>?_) _
  have hX2:=hX.kept hl
  have hB2:=hB.trans (hl.mono hB.size)
  go_wp2
  exact Bv Tryz.results248 rfl rfl rfl hX2 Tryz.underlying66 rfl (by kernel_rfl) rfl ⟨rfl,hB2⟩
 | inr q =>
  obtain⟨x,j⟩:=q
  rw[hr] at hE
  have HE:=ah hE
  clear h14 hr hE
  go_enter Tryz.func248,Tryz.ntmps248
  go_wp2_with fail
  refine(HH.out _ HS.out).mono ?_
  rintro e w1 ⟨rfl,hB1⟩
  have hS1:=HS.out.kept hB1
  go_wp2_with fail
  refine(HE.out _ hS1).mono ?_
  rintro e w2 ⟨hc,hj,rfl,hR2,hO2⟩
  have hS2:=hS1.step hR2 hO2
  obtain⟨x0,x1,x2,x3,x4⟩:=hR2.cells
  have HF:Hid (∀ u,Later w2.drew u→xE w u g n cap j 0 0 l):=ah fun u hl=>(hS2.kept (Below.refl _ _).drew).kept hl
  clear hS2 hS1 hB1 hR2 hO2
  go_wp2_with fail
  refine aA (R:=Later) 7 (by kernel_rfl) ?_
  refine pl [0,1,2,3,4,5,6] ?_
  repeat
   refine dI ?_ rfl (fun w1 hl=>?_) ?_
   rotate_left
   ·obtain⟨x0,x1,x2,x3,x4⟩:=(HF.out w1 hl).rd.cells;go_simp;try with_reducible rfl
   simp only[eA,eB,eC,Act.put,eD,eE,eF]
  refine bU ?_
  refine aP (t:=7) (i:=7) (by kernel_rfl) rfl (fun w1 hl K hK=>?_)
  have hS3:=HF.out w1 hl
  have r0:=hS3.x0.cell 0
  have r1:=hS3.x0.cell 1
  have s0:=hS3.x0.free 0
  have s1:=hS3.x0.free 1
  go_simp
  refine hK.out _ _ (fun h=>absurd rfl h) ?_
  clear hK K r0 r1 s0 s1 x0 x1 x2 x3 x4
  have hX:=(hS3.x0.set 0 (.int .i64 0)).set 1 (.int .i64 0)
  have hB:=(hS3.below.setCell (p:=⟨w.heap.size,0,none⟩) (by simp) (.int .i64 0)).setCell (p:=⟨w.heap.size,1,none⟩) (by simp) (.int .i64 0)
  clear hS3 HF hl
  refine aH (by kernel_rfl) (fun w1 hl=>?_) _
  have hX2:=hX.kept hl
  have hB2:=hB.trans (hl.mono hB.size)
  go_wp2
  exact Bv Tryz.results248 rfl rfl rfl hX2 Tryz.underlying66 rfl (by kernel_rfl) rfl ⟨rfl,hB2⟩
end
section
open Go.RowKit
theorem afN(w:World):Calls Tryz.prog 226 #[] w (aY w (iK Ju)):=by
 have hx:=(Box.new w #[.int .u64 0,.int .u64 0,.int .u64 0,.int .u64 0] 113).alloc (.cells #[.int .u8 10] 5)
 have hb:Below w.heap.size w ((w.alloc (.cells #[.int .u64 0,.int .u64 0,.int .u64 0,.int .u64 0] 113)).alloc (.cells #[.int .u8 10] 5)):=((Below.refl _ w).alloc (Nat.le_refl _) _).alloc (by simp) _
 have hsl:=DL (w.alloc (.cells #[.int .u64 0,.int .u64 0,.int .u64 0,.int .u64 0] 113)) 10 5
 have hof:=fun w1 h=>Hw (some ⟨w.heap.size+1,0,none⟩) 1 [10] w1 h (by simp)
 have hnt:=fun w1=>QH (nM [10]) w1
 simp only[World.size_alloc] at hsl
 have HSL:=ah hsl
 have EK:=ah hof
 have HNT:=ah (show ∀ w1,Calls Tryz.prog 254 #[iK (nM [10])] w1 (aY w1 (iK Ju)) from hnt)
 clear hsl hof hnt
 generalize Ju=d at *
 generalize nM [10]=d0 at *
 go_enter Tryz.func226,Tryz.ntmps226
 go_wp2_with fail
 refine(EK.out _ HSL.out).mono ?_
 rintro e w2 ⟨rfl,hB2⟩
 go_wp2_with fail
 refine(HNT.out _).mono ?_
 rintro e w3 ⟨rfl,hB3⟩
 have hx3:=(hx.kept hB2).kept hB3
 have hb3:=(hb.trans (hB2.mono hb.size)).trans (hB3.mono (Nat.le_trans hb.size hB2.size))
 have f0:=hx3.free 0
 have f1:=hx3.free 1
 have f2:=hx3.free 2
 have f3:=hx3.free 3
 have c0:=hx3.cell 0
 have c1:=hx3.cell 1
 have c2:=hx3.cell 2
 have c3:=hx3.cell 3
 go_wp2
 exact cZ Tryz.results226 rfl (hx3.eG rfl _ _ _ _) Tryz.underlying113 rfl (by kernel_rfl) rfl ⟨rfl,Fa hb3 (Nat.le_refl _) _ _ _ _⟩
theorem bJ.late{w:World}{r qB b E:Nat}{g:Nat×Nat}{n cap i:Nat}{l:List UInt8}{X:List Lx}{v:Value}{k p:Nat}{c:Array Value}(h:bJ w r qB g n cap i l X v k p)(hx:Box w b c E)(hrb:r≠b)(hbb:qB≤b)(j:Nat)(u:Value)(hE:E≠221:=by decide) :
  bJ (w.setCell ⟨b,j,none⟩ u) r qB g n cap i l X v k p:=by
 have hlt:=h.lt
 exact⟨h.box.other _ _ hrb,(aQ.set (X:=(·=b)) w ⟨b,j,none⟩ u rfl).slice h.sl (fun _ ad e=>by cases e;show ¬ g.1=b;omega),h.out.J8 hx (Ne.symm hE) _ _,h.ne,h.lt⟩
theorem bJ.zC{w:World}{r qB b:Nat}{g:Nat×Nat}{n cap i:Nat}{l:List UInt8}{X:List Lx}{v:Value}{k p:Nat}{c:Array Value}(h:bJ w r qB g n cap i l X v k p)(hx:Box w b c 113)(hrb:r≠b)(hbb:qB≤b)(v0 v1 v2 v3:Value) :
  bJ ((((w.setCell ⟨b,0,none⟩ v0).setCell ⟨b,1,none⟩ v1).setCell ⟨b,2,none⟩ v2).setCell ⟨b,3,none⟩ v3) r qB g n cap i l X v k p :=
 (((h.late hx hrb hbb 0 v0).late (hx.set 0 v0) hrb hbb 1 v1).late ((hx.set 0 v0).set 1 v1) hrb hbb 2 v2).late (((hx.set 0 v0).set 1 v1).set 2 v2) hrb hbb 3 v3
theorem ay.late{r qB b i:Nat}(w:World)(hb:qB≤b)(hr:r≤b)(u:Value):ay r qB w (w.setCell ⟨b,i,none⟩ u):=⟨(Below.refl r _).setCell (by show r≤b;exact hr) _,aQ.set _ _ _ (.inr hb),KeepsOthers.setCell _ _ _⟩
theorem ay.zC{r qB b:Nat}(w:World)(hb:qB≤b)(hr:r≤b)(v0 v1 v2 v3:Value):ay r qB w ((((w.setCell ⟨b,0,none⟩ v0).setCell ⟨b,1,none⟩ v1).setCell ⟨b,2,none⟩ v2).setCell ⟨b,3,none⟩ v3) :=
 (((ay.late w hb hr v0).trans (ay.late _ hb hr v1)).trans (ay.late _ hb hr v2)).trans (ay.late _ hb hr v3)
theorem Xr(r qB:Nat)(g:Nat×Nat)(n cap i:Nat)(l:List UInt8)(X:List Lx)(v:Value)(k p:Nat)(w:World)(h:bJ w r qB g n cap i l X v k p)(hr:r<qB)(hb:qB≤w.heap.size)(KY:aX l i 92=true)(kd ps:Nat)(ha:mM l i=.inl (kd,ps)) :
  Calls Tryz.prog 221 #[.pointer (some ⟨r,0,none⟩)] w (mZ r qB g n cap i l X kd ps w (.tuple #[])):=by
 have hg:g.1<w.heap.size:=by have:=h.lt;omega
 have hlen:=h.byte.1
 have hn63:=h.byte.2.1
 have hE:∀ u,bJ u r qB g n cap i l X v k p→qB≤u.heap.size→Calls Tryz.prog 248 #[.slice (some ⟨g.1,g.2,none⟩) n cap,.int .i64 i] u (aY u (.tuple #[.int .u8 0,.int .i64 0,.agg #[.int .i64 kd,.int .i64 ps]])):=fun u hu hbu=>by
  have:=FY g n cap i l u hu.sl (by have:=hu.lt;omega) KY
  rw[ha] at this;exact this
 have HE:=ah hE
 clear hE
 have HF:Hid (∀ u,Later w.drew u→bJ u r qB g n cap i l X v k p∧ay r qB w u):=ah fun u hl=>⟨(h.kept (Below.refl _ _).drew).kept hl,(ay.below (qB:=qB) (by omega) (Below.refl w.heap.size w).drew).trans (ay.below (by show r≤w.heap.size;omega) hl)⟩
 have ag6:=NH ha
 have ek:((kd:Int) != 0)=true:=by rw[ag6];rfl
 clear ag6
 clear h ha KY hlen hg
 go_enter Tryz.func221,Tryz.ntmps221
 go_wp2_with fail
 refine aA (R:=Later) 16 (by kernel_rfl) ?_
 refine pl [0,1,2,3,4,5,6,7] ?_
 repeat
  refine dI ?_ rfl (fun w1 hl=>?_) ?_
  rotate_left
  ·have hS:=(HF.out w1 hl).1;obtain⟨x0,x1,x2,x3,x4⟩:=hS.cells;go_simp;try with_reducible rfl
  simp only[eA,eB,eC,Act.put,eD,eE,eF]
 refine bU ?_
 refine EI 8 ?_ ?_ ?_ rfl (fun w1=>?_) (fun w1 hl=>?_) ?_
 rotate_left 4
 ·exact HE.out w1 (HF.out w1 hl).1 (by have:=(HF.out w1 hl).2.others.size;omega)
 rotate_left
 ·go_simp
 simp only[eA,eB,eC,Act.put,eD,eE,eF]
 refine pl [9,10,11,12] ?_
 repeat
  refine dI ?_ rfl (fun w1 hl=>?_) ?_
  rotate_left
  ·skip;go_simp;try with_reducible rfl
  simp only[eA,eB,eC,Act.put,eD,eE,eF]
 refine bU ?_
 refine aP (t:=16) (i:=13) (by kernel_rfl) rfl (fun w1 hl K hK=>?_)
 obtain⟨hS,hK2⟩:=HF.out w1 hl
 have hsz:=hK2.others.size
 clear hl HF HE
 go_simp
 refine hK.out _ _ (fun _=>aj _ _) ?_
 clear hK K
 have hx1:=Box.new w1 #[.int .i64 0,.int .i64 0] 66
 have hS1:=hS.kept (aj w1 (.cells #[.int .i64 0,.int .i64 0] 66))
 have hK1:=hK2.trans (ay.below (qB:=qB) (by omega) (aj w1 (.cells #[.int .i64 0,.int .i64 0] 66)))
 have hrb:r≠w1.heap.size:=by omega
 have hbb:qB≤w1.heap.size:=by omega
 clear hS hK2
 generalize hbq:w1.heap.size=b at *
 clear hbq
 refine pl [14,15] ?_
 repeat
  refine dI ?_ rfl (fun w1 hl=>?_) ?_
  rotate_left
  ·skip;go_simp;try with_reducible rfl
  simp only[eA,eB,eC,Act.put,eD,eE,eF]
 refine bU ?_
 refine aP (t:=16) (i:=16) (by kernel_rfl) rfl (fun w1 hl K hK=>?_)
 have hx2:=hx1.kept hl
 have hS2:=hS1.kept hl
 have hK2:=hK1.trans (ay.below (qB:=qB) (by have:=hS1.box.lt;omega) hl)
 have r0:=hx2.cell 0
 have r1:=hx2.cell 1
 have s0:=hx2.free 0
 have s1:=hx2.free 1
 clear hx1 hS1 hK1 hl
 go_simp
 refine hK.out _ _ (fun h=>absurd rfl h) ?_
 clear hK K r0 r1 s0 s1
 have hx3:Box _ b #[.int .i64 kd,.int .i64 ps] 66:=(hx2.set 0 (.int .i64 kd)).set 1 (.int .i64 ps)
 have hS3:=(hS2.late hx2 hrb hbb 0 (.int .i64 kd)).late (hx2.set 0 (.int .i64 kd)) hrb hbb 1 (.int .i64 ps)
 have hK3:=(hK2.trans (ay.late (r:=r) (qB:=qB) w1 (i:=0) hbb (by omega) (.int .i64 kd))).trans (ay.late (r:=r) (qB:=qB) _ (i:=1) hbb (by omega) (.int .i64 ps))
 clear hx2 hS2 hK2
 refine aH (by kernel_rfl) (fun w1 hl=>?_) _
 have hx4:=hx3.kept hl
 have hS4:=hS3.kept hl
 have hK4:=hK3.trans (ay.below (qB:=qB) (by have:=hS3.box.lt;omega) hl)
 clear hx3 hS3 hK3 hl
 have r0:=hx4.cell 0
 have r1:=hx4.cell 1
 obtain⟨x0,x1,x2,x3,x4⟩:=hS4.cells
 have f3:=hS4.box.free 3
 have f4:=hS4.box.free 4
 go_wp2
 go_end0
 obtain⟨a,c,rfl⟩:=hS4.form
 exact⟨rfl,⟨a,c,hS4.fault hr kd ps⟩,hK4.trans ((ay.set _ _ _).trans (ay.set _ _ _))⟩
theorem Xt(r qB:Nat)(g:Nat×Nat)(n cap i:Nat)(l:List UInt8)(X:List Lx)(v:Value)(k p:Nat)(w:World)(h:bJ w r qB g n cap i l X v k p)(hr:r<qB)(hb:qB≤w.heap.size)(KY:aX l i 92=true)(x j:Nat)(ha:mM l i=.inr (x,j))(hx:x<256)(hX:X.length≤4294967296) :
  Calls Tryz.prog 221 #[.pointer (some ⟨r,0,none⟩)] w (mZ r qB g n cap j l (X++[⟨1,i,nM [x],0,0⟩]) k p w (.tuple #[])):=by
 have hg:g.1<w.heap.size:=by have:=h.lt;omega
 have hlen:=h.byte.1
 have hn63:=h.byte.2.1
 have hE:∀ u,bJ u r qB g n cap i l X v k p→qB≤u.heap.size→Calls Tryz.prog 248 #[.slice (some ⟨g.1,g.2,none⟩) n cap,.int .i64 i] u (aY u (.tuple #[.int .u8 x,.int .i64 j,.agg #[.int .i64 0,.int .i64 0]])):=fun u hu hbu=>by
  have:=FY g n cap i l u hu.sl (by have:=hu.lt;omega) KY
  rw[ha] at this;exact this
 have HE:=ah hE
 clear hE
 have HF:Hid (∀ u,Later w.drew u→bJ u r qB g n cap i l X v k p∧ay r qB w u):=ah fun u hl=>⟨(h.kept (Below.refl _ _).drew).kept hl,(ay.below (qB:=qB) (by omega) (Below.refl w.heap.size w).drew).trans (ay.below (by show r≤w.heap.size;omega) hl)⟩
 have hset:=fun u hu hbu=>KW r qB g n cap i l X v k p (nM [x]) j u hu hr hbu hX
 have hof:=fun b w1 h=>Hw (some ⟨b,0,none⟩) 1 [x] w1 h (by simpa using hx)
 have yR:=ah hset
 have EK:=ah hof
 clear hset hof
 generalize nM [x]=sx at *
 clear h ha KY hlen hg
 go_enter Tryz.func221,Tryz.ntmps221
 go_wp2_with fail
 refine aA (R:=Later) 16 (by kernel_rfl) ?_
 refine pl [0,1,2,3,4,5,6,7] ?_
 repeat
  refine dI ?_ rfl (fun w1 hl=>?_) ?_
  rotate_left
  ·have hS:=(HF.out w1 hl).1;obtain⟨x0,x1,x2,x3,x4⟩:=hS.cells;go_simp;try with_reducible rfl
  simp only[eA,eB,eC,Act.put,eD,eE,eF]
 refine bU ?_
 refine EI 8 ?_ ?_ ?_ rfl (fun w1=>?_) (fun w1 hl=>?_) ?_
 rotate_left 4
 ·exact HE.out w1 (HF.out w1 hl).1 (by have:=(HF.out w1 hl).2.others.size;omega)
 rotate_left
 ·go_simp
 simp only[eA,eB,eC,Act.put,eD,eE,eF]
 refine pl [9,10,11,12] ?_
 repeat
  refine dI ?_ rfl (fun w1 hl=>?_) ?_
  rotate_left
  ·skip;go_simp;try with_reducible rfl
  simp only[eA,eB,eC,Act.put,eD,eE,eF]
 refine bU ?_
 refine aP (t:=16) (i:=13) (by kernel_rfl) rfl (fun w1 hl K hK=>?_)
 obtain⟨hS,hK2⟩:=HF.out w1 hl
 have hsz:=hK2.others.size
 clear hl HF HE
 go_simp
 refine hK.out _ _ (fun _=>aj _ _) ?_
 clear hK K
 have hx1:=Box.new w1 #[.int .i64 0,.int .i64 0] 66
 have hS1:=hS.kept (aj w1 (.cells #[.int .i64 0,.int .i64 0] 66))
 have hK1:=hK2.trans (ay.below (qB:=qB) (by omega) (aj w1 (.cells #[.int .i64 0,.int .i64 0] 66)))
 have hrb:r≠w1.heap.size:=by omega
 have hbb:qB≤w1.heap.size:=by omega
 clear hS hK2
 generalize hbq:w1.heap.size=b at *
 clear hbq
 refine pl [14,15] ?_
 repeat
  refine dI ?_ rfl (fun w1 hl=>?_) ?_
  rotate_left
  ·skip;go_simp;try with_reducible rfl
  simp only[eA,eB,eC,Act.put,eD,eE,eF]
 refine bU ?_
 refine aP (t:=16) (i:=16) (by kernel_rfl) rfl (fun w1 hl K hK=>?_)
 have hx2:=hx1.kept hl
 have hS2:=hS1.kept hl
 have hK2:=hK1.trans (ay.below (qB:=qB) (by have:=hS1.box.lt;omega) hl)
 have r0:=hx2.cell 0
 have r1:=hx2.cell 1
 have s0:=hx2.free 0
 have s1:=hx2.free 1
 clear hx1 hS1 hK1 hl
 go_simp
 refine hK.out _ _ (fun h=>absurd rfl h) ?_
 clear hK K r0 r1 s0 s1
 have hx3:Box _ b #[.int .i64 0,.int .i64 0] 66:=(hx2.set 0 (.int .i64 0)).set 1 (.int .i64 0)
 have hS3:=(hS2.late hx2 hrb hbb 0 (.int .i64 0)).late (hx2.set 0 (.int .i64 0)) hrb hbb 1 (.int .i64 0)
 have hK3:=(hK2.trans (ay.late (r:=r) (qB:=qB) w1 (i:=0) hbb (by omega) (.int .i64 0))).trans (ay.late (r:=r) (qB:=qB) _ (i:=1) hbb (by omega) (.int .i64 0))
 clear hx2 hS2 hK2
 refine aH (by kernel_rfl) (fun w1 hl=>?_) _
 have hx4:=hx3.kept hl
 have hS4:=hS3.kept hl
 have hK4:=hK3.trans (ay.below (qB:=qB) (by have:=hS3.box.lt;omega) hl)
 clear hx3 hS3 hK3 hl
 have r0:=hx4.cell 0
 have r1:=hx4.cell 1
 have CG:=hK4.others.size
 have hsl:=DL w1 x 5
 have hS5:=hS4.kept (aj w1 (.cells #[.int .u8 x] 5))
 have hK5:=hK4.trans (ay.below (qB:=qB) (by omega) (aj w1 (.cells #[.int .u8 x] 5)))
 go_wp2_with fail
 refine(EK.out _ _ hsl).mono ?_
 rintro e w3 ⟨rfl,hB3⟩
 have hS6:=hS5.kept hB3
 have hK6:=hK5.trans (ay.below (qB:=qB) (by have:=hS5.box.lt;omega) hB3)
 have apN:=hK6.others.size
 go_wp2_with (go_at_call 225;go_must (refine(yR.out _ hS6 (by omega)).mono ?_;rintro e w4 ⟨rfl,hS7,hK7⟩))
 go_end0
 exact⟨rfl,hS7,hK6.trans hK7⟩
theorem Zz(r qB:Nat)(g:Nat×Nat)(n cap i:Nat)(l:List UInt8)(X:List Lx)(v:Value)(k p:Nat)(w:World)(h:bJ w r qB g n cap i l X v k p)(hr:r<qB)(hb:qB≤w.heap.size)(kd ps:Nat)(ha:oG l i=.inl (kd,ps))(hk:kd≠0) :
  Calls Tryz.prog 222 #[.pointer (some ⟨r,0,none⟩)] w (mZ r qB g n cap i l X kd ps w (.tuple #[])):=by
 have hg:g.1<w.heap.size:=by have:=h.lt;omega
 have hlen:=h.byte.1
 have hn63:=h.byte.2.1
 have hE:∀ u,bJ u r qB g n cap i l X v k p→qB≤u.heap.size→Calls Tryz.prog 249 #[.slice (some ⟨g.1,g.2,none⟩) n cap,.int .i64 i] u (aY u (.tuple #[iK 0,.int .i64 0,.agg #[.int .i64 kd,.int .i64 ps]])):=fun u hu hbu=>by
  have:=FT g n cap i l u hu.sl (by have:=hu.lt;omega)
  rw[ha] at this;exact this
 have HE:=ah hE
 clear hE
 have HF:Hid (∀ u,Later w.drew u→bJ u r qB g n cap i l X v k p∧ay r qB w u):=ah fun u hl=>⟨(h.kept (Below.refl _ _).drew).kept hl,(ay.below (qB:=qB) (by omega) (Below.refl w.heap.size w).drew).trans (ay.below (by show r≤w.heap.size;omega) hl)⟩
 have ek:((kd:Int) != 0)=true:=by simp;omega
 clear hk
 obtain⟨s,hs⟩:∃ s:au,0=s:=⟨_,rfl⟩
 rw[hs] at HE
 clear hs
 clear h ha hlen hg
 go_enter Tryz.func222,Tryz.ntmps222
 go_wp2_with fail
 refine jq (R:=Later) [15,17] (by kernel_rfl) ?_
 refine pl [0,1,2] ?_
 repeat
  refine oM ?_ rfl (fun w1=>?_) ?_
  rotate_left
  ·go_simp;try with_reducible rfl
  simp only[eA,eB,eC,Act.put,eD,eE,eF]
 refine bU ?_
 refine AY 3 ?_ rfl (fun w1 hl=>?_) ?_
 rotate_left
 ·have hS:=(HF.out w1 hl).1;obtain⟨x0,x1,x2,x3,x4⟩:=hS.cells;go_simp;try with_reducible rfl
 simp only[eA,eB,eC,Act.put,eD,eE,eF]
 refine pl [4,5,6] ?_
 repeat
  refine oM ?_ rfl (fun w1=>?_) ?_
  rotate_left
  ·go_simp;try with_reducible rfl
  simp only[eA,eB,eC,Act.put,eD,eE,eF]
 refine bU ?_
 refine AY 7 ?_ rfl (fun w1 hl=>?_) ?_
 rotate_left
 ·have hS:=(HF.out w1 hl).1;obtain⟨x0,x1,x2,x3,x4⟩:=hS.cells;go_simp;try with_reducible rfl
 simp only[eA,eB,eC,Act.put,eD,eE,eF]
 refine clT 8 ?_ ?_ ?_ rfl (fun w1=>?_) (fun w1 hl=>?_) ?_
 rotate_left 4
 ·exact HE.out w1 (HF.out w1 hl).1 (by have:=(HF.out w1 hl).2.others.size;omega)
 rotate_left
 ·go_simp
 simp only[eA,eB,eC,Act.put,eD,eE,eF]
 refine pl [9,10,11,12] ?_
 repeat
  refine oM ?_ rfl (fun w1=>?_) ?_
  rotate_left
  ·go_simp;try with_reducible rfl
  simp only[eA,eB,eC,Act.put,eD,eE,eF]
 refine bU ?_
 refine Vm (T:=[15,17]) (i:=13) (j:=14) (by kernel_rfl) rfl rfl (fun w1 hl K hK=>?_) (fun w1 hl K hK=>?_)
 ·obtain⟨hS,hK2⟩:=HF.out w1 hl
  have hsz:=hK2.others.size
  clear hl HF HE
  go_simp
  refine hK.out _ _ (fun _=>aj _ _) ?_
  clear hK K
  have hxa:=Box.new w1 #[.int .u64 0,.int .u64 0,.int .u64 0,.int .u64 0] 113
  have hS1:=hS.kept (aj w1 (.cells #[.int .u64 0,.int .u64 0,.int .u64 0,.int .u64 0] 113))
  have hK1:=hK2.trans (ay.below (qB:=qB) (by omega) (aj w1 (.cells #[.int .u64 0,.int .u64 0,.int .u64 0,.int .u64 0] 113)))
  have hra:r<w1.heap.size:=by omega
  have hba:qB≤w1.heap.size:=by omega
  clear hS hK2 hsz
  generalize hbq:w1.heap.size=b1 at *
  clear hbq
  refine dw (T:=[15,17]) (i:=14) (by kernel_rfl) rfl (fun w1 hl K hK=>?_)
  have hS:=hS1.kept hl
  have hsz1:=hK1.others.size
  have hK2:=hK1.trans (ay.below (qB:=qB) (by have:=hS1.box.lt;omega) hl)
  have hxa:=hxa.kept hl
  have hsz:=hK2.others.size
  have hab:=hxa.lt
  clear hl hS1 hK1 hsz1
  go_simp
  refine hK.out _ _ (fun _=>aj _ _) ?_
  clear hK K
  have hxb:=Box.new w1 #[.int .i64 0,.int .i64 0] 66
  have hS1:=hS.kept (aj w1 (.cells #[.int .i64 0,.int .i64 0] 66))
  have hK1:=hK2.trans (ay.below (qB:=qB) (by omega) (aj w1 (.cells #[.int .i64 0,.int .i64 0] 66)))
  have hxa:=hxa.kept (aj w1 (.cells #[.int .i64 0,.int .i64 0] 66))
  have hrb:r<w1.heap.size:=by omega
  have hbb:qB≤w1.heap.size:=by omega
  clear hS hK2 hsz
  generalize hbq:w1.heap.size=b2 at *
  clear hbq
  have hne:b1≠b2:=by omega
  clear hab
  refine dw (T:=[15,17]) (i:=15) (by kernel_rfl) rfl (fun w1 hl K hK=>?_)
  have hxs:=hxa.kept hl
  have hxd:=hxb.kept hl
  have hS:=hS1.kept hl
  have hK2:=hK1.trans (ay.below (qB:=qB) (by have:=hS1.box.lt;omega) hl)
  obtain⟨f0,f1,f2,f3⟩:_∧_∧_∧_:=⟨hxs.free 0,hxs.free 1,hxs.free 2,hxs.free 3⟩
  obtain⟨c0,c1,c2,c3⟩:_∧_∧_∧_:=⟨hxs.cell 0,hxs.cell 1,hxs.cell 2,hxs.cell 3⟩
  clear hl hS1 hK1 hxa hxb
  go_simp
  refine hK.out _ _ (fun h=>absurd h (by decide)) ?_
  clear hK K c0 c1 c2 c3 f0 f1 f2 f3
  have Ad:=hxs.eG rfl (.int .u64 (word s 0:Nat)) (.int .u64 (word s 1:Nat)) (.int .u64 (word s 2:Nat)) (.int .u64 (word s 3:Nat))
  have Ae:=hxd.C9 (b':=b1) (by exact hne.symm) (.int .u64 (word s 0:Nat)) (.int .u64 (word s 1:Nat)) (.int .u64 (word s 2:Nat)) (.int .u64 (word s 3:Nat))
  have hS1:=hS.zC hxs (Nat.ne_of_lt hra) hba (.int .u64 (word s 0:Nat)) (.int .u64 (word s 1:Nat)) (.int .u64 (word s 2:Nat)) (.int .u64 (word s 3:Nat))
  have hK1:=hK2.trans (ay.zC w1 hba (Nat.le_of_lt hra) (.int .u64 (word s 0:Nat)) (.int .u64 (word s 1:Nat)) (.int .u64 (word s 2:Nat)) (.int .u64 (word s 3:Nat)))
  clear hxs hxd hS hK2
  refine Kv 16 ?_ rfl (fun w1=>?_) ?_
  rotate_left
  ·go_simp;try with_reducible rfl
  simp only[eA,eB,eC,Act.put,eD,eE,eF]
  refine dw (T:=[15,17]) (i:=17) (by kernel_rfl) rfl (fun w1 hl K hK=>?_)
  have hxs:=Ad.kept hl
  have hxd:=Ae.kept hl
  have hS:=hS1.kept hl
  have hK2:=hK1.trans (ay.below (qB:=qB) (by have:=hS1.box.lt;omega) hl)
  have r0:=hxd.cell 0
  have r1:=hxd.cell 1
  have s0:=hxd.free 0
  have s1:=hxd.free 1
  clear Ad Ae hS1 hK1 hl
  go_simp
  refine hK.out _ _ (fun h=>absurd h (by decide)) ?_
  clear hK K r0 r1 s0 s1
  have hx3:Box _ b2 #[.int .i64 kd,.int .i64 ps] 66:=(hxd.set 0 (.int .i64 kd)).set 1 (.int .i64 ps)
  have hS3:=(hS.late hxd (Nat.ne_of_lt hrb) hbb 0 (.int .i64 kd)).late (hxd.set 0 (.int .i64 kd)) (Nat.ne_of_lt hrb) hbb 1 (.int .i64 ps)
  have hK3:=(hK2.trans (ay.late (r:=r) (qB:=qB) w1 (i:=0) hbb (by omega) (.int .i64 kd))).trans (ay.late (r:=r) (qB:=qB) _ (i:=1) hbb (by omega) (.int .i64 ps))
  have Af:=(hxs.other ⟨b2,0,none⟩ (.int .i64 kd) hne).other ⟨b2,1,none⟩ (.int .i64 ps) hne
  clear hxd hS hK2 hxs
  refine kK (by kernel_rfl) (fun w1 hl=>?_) _
  have hx4:=hx3.kept hl
  have hS4:=hS3.kept hl
  have hK4:=hK3.trans (ay.below (qB:=qB) (by have:=hS3.box.lt;omega) hl)
  have RG:Box w1 b1 (bT s) 113:=Af.kept hl
  clear hx3 hS3 hK3 hl Af
  have r0:=hx4.cell 0
  have r1:=hx4.cell 1
  obtain⟨x0,x1,x2,x3,x4⟩:=hS4.cells
  have f3:=hS4.box.free 3
  have f4:=hS4.box.free 4
  go_wp2
  go_end0
  obtain⟨a,c,rfl⟩:=hS4.form
  exact⟨rfl,⟨a,c,hS4.fault hr kd ps⟩,hK4.trans ((ay.set _ _ _).trans (ay.set _ _ _))⟩
 ·obtain⟨hS,hK2⟩:=HF.out w1 hl
  have hsz:=hK2.others.size
  clear hl HF HE
  go_simp
  refine hK.out _ _ (fun _=>aj _ _) ?_
  clear hK K
  have hxa:=Box.new w1 #[.int .i64 0,.int .i64 0] 66
  have hS1:=hS.kept (aj w1 (.cells #[.int .i64 0,.int .i64 0] 66))
  have hK1:=hK2.trans (ay.below (qB:=qB) (by omega) (aj w1 (.cells #[.int .i64 0,.int .i64 0] 66)))
  have hra:r<w1.heap.size:=by omega
  have hba:qB≤w1.heap.size:=by omega
  clear hS hK2 hsz
  generalize hbq:w1.heap.size=b1 at *
  clear hbq
  refine dw (T:=[15,17]) (i:=13) (by kernel_rfl) rfl (fun w1 hl K hK=>?_)
  have hS:=hS1.kept hl
  have hsz1:=hK1.others.size
  have hK2:=hK1.trans (ay.below (qB:=qB) (by have:=hS1.box.lt;omega) hl)
  have hxa:=hxa.kept hl
  have hsz:=hK2.others.size
  have hab:=hxa.lt
  clear hl hS1 hK1 hsz1
  go_simp
  refine hK.out _ _ (fun _=>aj _ _) ?_
  clear hK K
  have hxb:=Box.new w1 #[.int .u64 0,.int .u64 0,.int .u64 0,.int .u64 0] 113
  have hS1:=hS.kept (aj w1 (.cells #[.int .u64 0,.int .u64 0,.int .u64 0,.int .u64 0] 113))
  have hK1:=hK2.trans (ay.below (qB:=qB) (by omega) (aj w1 (.cells #[.int .u64 0,.int .u64 0,.int .u64 0,.int .u64 0] 113)))
  have hxa:=hxa.kept (aj w1 (.cells #[.int .u64 0,.int .u64 0,.int .u64 0,.int .u64 0] 113))
  have hrb:r<w1.heap.size:=by omega
  have hbb:qB≤w1.heap.size:=by omega
  clear hS hK2 hsz
  generalize hbq:w1.heap.size=b2 at *
  clear hbq
  have hne:b1≠b2:=by omega
  clear hab
  refine dw (T:=[15,17]) (i:=15) (by kernel_rfl) rfl (fun w1 hl K hK=>?_)
  have hxs:=hxb.kept hl
  have hxd:=hxa.kept hl
  have hS:=hS1.kept hl
  have hK2:=hK1.trans (ay.below (qB:=qB) (by have:=hS1.box.lt;omega) hl)
  obtain⟨f0,f1,f2,f3⟩:_∧_∧_∧_:=⟨hxs.free 0,hxs.free 1,hxs.free 2,hxs.free 3⟩
  obtain⟨c0,c1,c2,c3⟩:_∧_∧_∧_:=⟨hxs.cell 0,hxs.cell 1,hxs.cell 2,hxs.cell 3⟩
  clear hl hS1 hK1 hxa hxb
  go_simp
  refine hK.out _ _ (fun h=>absurd h (by decide)) ?_
  clear hK K c0 c1 c2 c3 f0 f1 f2 f3
  have Ad:=hxs.eG rfl (.int .u64 (word s 0:Nat)) (.int .u64 (word s 1:Nat)) (.int .u64 (word s 2:Nat)) (.int .u64 (word s 3:Nat))
  have Ae:=hxd.C9 (b':=b2) (by exact hne.symm.symm) (.int .u64 (word s 0:Nat)) (.int .u64 (word s 1:Nat)) (.int .u64 (word s 2:Nat)) (.int .u64 (word s 3:Nat))
  have hS1:=hS.zC hxs (Nat.ne_of_lt hrb) hbb (.int .u64 (word s 0:Nat)) (.int .u64 (word s 1:Nat)) (.int .u64 (word s 2:Nat)) (.int .u64 (word s 3:Nat))
  have hK1:=hK2.trans (ay.zC w1 hbb (Nat.le_of_lt hrb) (.int .u64 (word s 0:Nat)) (.int .u64 (word s 1:Nat)) (.int .u64 (word s 2:Nat)) (.int .u64 (word s 3:Nat)))
  clear hxs hxd hS hK2
  refine Kv 16 ?_ rfl (fun w1=>?_) ?_
  rotate_left
  ·go_simp;try with_reducible rfl
  simp only[eA,eB,eC,Act.put,eD,eE,eF]
  refine dw (T:=[15,17]) (i:=17) (by kernel_rfl) rfl (fun w1 hl K hK=>?_)
  have hxs:=Ad.kept hl
  have hxd:=Ae.kept hl
  have hS:=hS1.kept hl
  have hK2:=hK1.trans (ay.below (qB:=qB) (by have:=hS1.box.lt;omega) hl)
  have r0:=hxd.cell 0
  have r1:=hxd.cell 1
  have s0:=hxd.free 0
  have s1:=hxd.free 1
  clear Ad Ae hS1 hK1 hl
  go_simp
  refine hK.out _ _ (fun h=>absurd h (by decide)) ?_
  clear hK K r0 r1 s0 s1
  have hx3:Box _ b1 #[.int .i64 kd,.int .i64 ps] 66:=(hxd.set 0 (.int .i64 kd)).set 1 (.int .i64 ps)
  have hS3:=(hS.late hxd (Nat.ne_of_lt hra) hba 0 (.int .i64 kd)).late (hxd.set 0 (.int .i64 kd)) (Nat.ne_of_lt hra) hba 1 (.int .i64 ps)
  have hK3:=(hK2.trans (ay.late (r:=r) (qB:=qB) w1 (i:=0) hba (by omega) (.int .i64 kd))).trans (ay.late (r:=r) (qB:=qB) _ (i:=1) hba (by omega) (.int .i64 ps))
  have Af:=(hxs.other ⟨b1,0,none⟩ (.int .i64 kd) hne.symm).other ⟨b1,1,none⟩ (.int .i64 ps) hne.symm
  clear hxd hS hK2 hxs
  refine kK (by kernel_rfl) (fun w1 hl=>?_) _
  have hx4:=hx3.kept hl
  have hS4:=hS3.kept hl
  have hK4:=hK3.trans (ay.below (qB:=qB) (by have:=hS3.box.lt;omega) hl)
  have RG:Box w1 b2 (bT s) 113:=Af.kept hl
  clear hx3 hS3 hK3 hl Af
  have r0:=hx4.cell 0
  have r1:=hx4.cell 1
  obtain⟨x0,x1,x2,x3,x4⟩:=hS4.cells
  have f3:=hS4.box.free 3
  have f4:=hS4.box.free 4
  go_wp2
  go_end0
  obtain⟨a,c,rfl⟩:=hS4.form
  exact⟨rfl,⟨a,c,hS4.fault hr kd ps⟩,hK4.trans ((ay.set _ _ _).trans (ay.set _ _ _))⟩
theorem ZA(r qB:Nat)(g:Nat×Nat)(n cap i:Nat)(l:List UInt8)(X:List Lx)(v:Value)(k p:Nat)(w:World)(h:bJ w r qB g n cap i l X v k p)(hr:r<qB)(hb:qB≤w.heap.size)(s:au)(j:Nat)(ha:oG l i=.inr (s,j))(hX:X.length≤4294967296) :
  Calls Tryz.prog 222 #[.pointer (some ⟨r,0,none⟩)] w (mZ r qB g n cap j l (X++[⟨1,i,s,0,0⟩]) k p w (.tuple #[])):=by
 have hg:g.1<w.heap.size:=by have:=h.lt;omega
 have hlen:=h.byte.1
 have hn63:=h.byte.2.1
 have hE:∀ u,bJ u r qB g n cap i l X v k p→qB≤u.heap.size→Calls Tryz.prog 249 #[.slice (some ⟨g.1,g.2,none⟩) n cap,.int .i64 i] u (aY u (.tuple #[iK s,.int .i64 j,.agg #[.int .i64 0,.int .i64 0]])):=fun u hu hbu=>by
  have:=FT g n cap i l u hu.sl (by have:=hu.lt;omega)
  rw[ha] at this;exact this
 have HE:=ah hE
 clear hE
 have HF:Hid (∀ u,Later w.drew u→bJ u r qB g n cap i l X v k p∧ay r qB w u):=ah fun u hl=>⟨(h.kept (Below.refl _ _).drew).kept hl,(ay.below (qB:=qB) (by omega) (Below.refl w.heap.size w).drew).trans (ay.below (by show r≤w.heap.size;omega) hl)⟩
 have hset:=fun u hu hbu=>KW r qB g n cap i l X v k p s j u hu hr hbu hX
 have yR:=ah hset
 clear hset
 clear h ha hlen hg
 go_enter Tryz.func222,Tryz.ntmps222
 go_wp2_with fail
 refine jq (R:=Later) [15,17] (by kernel_rfl) ?_
 refine pl [0,1,2] ?_
 repeat
  refine oM ?_ rfl (fun w1=>?_) ?_
  rotate_left
  ·go_simp;try with_reducible rfl
  simp only[eA,eB,eC,Act.put,eD,eE,eF]
 refine bU ?_
 refine AY 3 ?_ rfl (fun w1 hl=>?_) ?_
 rotate_left
 ·have hS:=(HF.out w1 hl).1;obtain⟨x0,x1,x2,x3,x4⟩:=hS.cells;go_simp;try with_reducible rfl
 simp only[eA,eB,eC,Act.put,eD,eE,eF]
 refine pl [4,5,6] ?_
 repeat
  refine oM ?_ rfl (fun w1=>?_) ?_
  rotate_left
  ·go_simp;try with_reducible rfl
  simp only[eA,eB,eC,Act.put,eD,eE,eF]
 refine bU ?_
 refine AY 7 ?_ rfl (fun w1 hl=>?_) ?_
 rotate_left
 ·have hS:=(HF.out w1 hl).1;obtain⟨x0,x1,x2,x3,x4⟩:=hS.cells;go_simp;try with_reducible rfl
 simp only[eA,eB,eC,Act.put,eD,eE,eF]
 refine clT 8 ?_ ?_ ?_ rfl (fun w1=>?_) (fun w1 hl=>?_) ?_
 rotate_left 4
 ·exact HE.out w1 (HF.out w1 hl).1 (by have:=(HF.out w1 hl).2.others.size;omega)
 rotate_left
 ·go_simp
 simp only[eA,eB,eC,Act.put,eD,eE,eF]
 refine pl [9,10,11,12] ?_
 repeat
  refine oM ?_ rfl (fun w1=>?_) ?_
  rotate_left
  ·go_simp;try with_reducible rfl
  simp only[eA,eB,eC,Act.put,eD,eE,eF]
 refine bU ?_
 refine Vm (T:=[15,17]) (i:=13) (j:=14) (by kernel_rfl) rfl rfl (fun w1 hl K hK=>?_) (fun w1 hl K hK=>?_)
 ·obtain⟨hS,hK2⟩:=HF.out w1 hl
  have hsz:=hK2.others.size
  clear hl HF HE
  go_simp
  refine hK.out _ _ (fun _=>aj _ _) ?_
  clear hK K
  have hxa:=Box.new w1 #[.int .u64 0,.int .u64 0,.int .u64 0,.int .u64 0] 113
  have hS1:=hS.kept (aj w1 (.cells #[.int .u64 0,.int .u64 0,.int .u64 0,.int .u64 0] 113))
  have hK1:=hK2.trans (ay.below (qB:=qB) (by omega) (aj w1 (.cells #[.int .u64 0,.int .u64 0,.int .u64 0,.int .u64 0] 113)))
  have hra:r<w1.heap.size:=by omega
  have hba:qB≤w1.heap.size:=by omega
  clear hS hK2 hsz
  generalize hbq:w1.heap.size=b1 at *
  clear hbq
  refine dw (T:=[15,17]) (i:=14) (by kernel_rfl) rfl (fun w1 hl K hK=>?_)
  have hS:=hS1.kept hl
  have hsz1:=hK1.others.size
  have hK2:=hK1.trans (ay.below (qB:=qB) (by have:=hS1.box.lt;omega) hl)
  have hxa:=hxa.kept hl
  have hsz:=hK2.others.size
  have hab:=hxa.lt
  clear hl hS1 hK1 hsz1
  go_simp
  refine hK.out _ _ (fun _=>aj _ _) ?_
  clear hK K
  have hxb:=Box.new w1 #[.int .i64 0,.int .i64 0] 66
  have hS1:=hS.kept (aj w1 (.cells #[.int .i64 0,.int .i64 0] 66))
  have hK1:=hK2.trans (ay.below (qB:=qB) (by omega) (aj w1 (.cells #[.int .i64 0,.int .i64 0] 66)))
  have hxa:=hxa.kept (aj w1 (.cells #[.int .i64 0,.int .i64 0] 66))
  have hrb:r<w1.heap.size:=by omega
  have hbb:qB≤w1.heap.size:=by omega
  clear hS hK2 hsz
  generalize hbq:w1.heap.size=b2 at *
  clear hbq
  have hne:b1≠b2:=by omega
  clear hab
  refine dw (T:=[15,17]) (i:=15) (by kernel_rfl) rfl (fun w1 hl K hK=>?_)
  have hxs:=hxa.kept hl
  have hxd:=hxb.kept hl
  have hS:=hS1.kept hl
  have hK2:=hK1.trans (ay.below (qB:=qB) (by have:=hS1.box.lt;omega) hl)
  obtain⟨f0,f1,f2,f3⟩:_∧_∧_∧_:=⟨hxs.free 0,hxs.free 1,hxs.free 2,hxs.free 3⟩
  obtain⟨c0,c1,c2,c3⟩:_∧_∧_∧_:=⟨hxs.cell 0,hxs.cell 1,hxs.cell 2,hxs.cell 3⟩
  clear hl hS1 hK1 hxa hxb
  go_simp
  refine hK.out _ _ (fun h=>absurd h (by decide)) ?_
  clear hK K c0 c1 c2 c3 f0 f1 f2 f3
  have Ad:=hxs.eG rfl (.int .u64 (word s 0:Nat)) (.int .u64 (word s 1:Nat)) (.int .u64 (word s 2:Nat)) (.int .u64 (word s 3:Nat))
  have Ae:=hxd.C9 (b':=b1) (by exact hne.symm) (.int .u64 (word s 0:Nat)) (.int .u64 (word s 1:Nat)) (.int .u64 (word s 2:Nat)) (.int .u64 (word s 3:Nat))
  have hS1:=hS.zC hxs (Nat.ne_of_lt hra) hba (.int .u64 (word s 0:Nat)) (.int .u64 (word s 1:Nat)) (.int .u64 (word s 2:Nat)) (.int .u64 (word s 3:Nat))
  have hK1:=hK2.trans (ay.zC w1 hba (Nat.le_of_lt hra) (.int .u64 (word s 0:Nat)) (.int .u64 (word s 1:Nat)) (.int .u64 (word s 2:Nat)) (.int .u64 (word s 3:Nat)))
  clear hxs hxd hS hK2
  refine Kv 16 ?_ rfl (fun w1=>?_) ?_
  rotate_left
  ·go_simp;try with_reducible rfl
  simp only[eA,eB,eC,Act.put,eD,eE,eF]
  refine dw (T:=[15,17]) (i:=17) (by kernel_rfl) rfl (fun w1 hl K hK=>?_)
  have hxs:=Ad.kept hl
  have hxd:=Ae.kept hl
  have hS:=hS1.kept hl
  have hK2:=hK1.trans (ay.below (qB:=qB) (by have:=hS1.box.lt;omega) hl)
  have r0:=hxd.cell 0
  have r1:=hxd.cell 1
  have s0:=hxd.free 0
  have s1:=hxd.free 1
  clear Ad Ae hS1 hK1 hl
  go_simp
  refine hK.out _ _ (fun h=>absurd h (by decide)) ?_
  clear hK K r0 r1 s0 s1
  have hx3:Box _ b2 #[.int .i64 0,.int .i64 0] 66:=(hxd.set 0 (.int .i64 0)).set 1 (.int .i64 0)
  have hS3:=(hS.late hxd (Nat.ne_of_lt hrb) hbb 0 (.int .i64 0)).late (hxd.set 0 (.int .i64 0)) (Nat.ne_of_lt hrb) hbb 1 (.int .i64 0)
  have hK3:=(hK2.trans (ay.late (r:=r) (qB:=qB) w1 (i:=0) hbb (by omega) (.int .i64 0))).trans (ay.late (r:=r) (qB:=qB) _ (i:=1) hbb (by omega) (.int .i64 0))
  have Af:=(hxs.other ⟨b2,0,none⟩ (.int .i64 0) hne).other ⟨b2,1,none⟩ (.int .i64 0) hne
  clear hxd hS hK2 hxs
  refine kK (by kernel_rfl) (fun w1 hl=>?_) _
  have hx4:=hx3.kept hl
  have hS4:=hS3.kept hl
  have hK4:=hK3.trans (ay.below (qB:=qB) (by have:=hS3.box.lt;omega) hl)
  have RG:Box w1 b1 (bT s) 113:=Af.kept hl
  clear hx3 hS3 hK3 hl Af
  have r0:=hx4.cell 0
  have r1:=hx4.cell 1
  have CG:=hK4.others.size
  obtain⟨⟨c0,c1,c2,c3⟩,_⟩:=RG.jv
  go_wp2_with (go_at_call 225;go_must (refine(yR.out _ hS4 (by omega)).mono ?_;rintro e w4 ⟨rfl,hS7,hK7⟩))
  go_end0
  exact⟨rfl,hS7,hK4.trans hK7⟩
 ·obtain⟨hS,hK2⟩:=HF.out w1 hl
  have hsz:=hK2.others.size
  clear hl HF HE
  go_simp
  refine hK.out _ _ (fun _=>aj _ _) ?_
  clear hK K
  have hxa:=Box.new w1 #[.int .i64 0,.int .i64 0] 66
  have hS1:=hS.kept (aj w1 (.cells #[.int .i64 0,.int .i64 0] 66))
  have hK1:=hK2.trans (ay.below (qB:=qB) (by omega) (aj w1 (.cells #[.int .i64 0,.int .i64 0] 66)))
  have hra:r<w1.heap.size:=by omega
  have hba:qB≤w1.heap.size:=by omega
  clear hS hK2 hsz
  generalize hbq:w1.heap.size=b1 at *
  clear hbq
  refine dw (T:=[15,17]) (i:=13) (by kernel_rfl) rfl (fun w1 hl K hK=>?_)
  have hS:=hS1.kept hl
  have hsz1:=hK1.others.size
  have hK2:=hK1.trans (ay.below (qB:=qB) (by have:=hS1.box.lt;omega) hl)
  have hxa:=hxa.kept hl
  have hsz:=hK2.others.size
  have hab:=hxa.lt
  clear hl hS1 hK1 hsz1
  go_simp
  refine hK.out _ _ (fun _=>aj _ _) ?_
  clear hK K
  have hxb:=Box.new w1 #[.int .u64 0,.int .u64 0,.int .u64 0,.int .u64 0] 113
  have hS1:=hS.kept (aj w1 (.cells #[.int .u64 0,.int .u64 0,.int .u64 0,.int .u64 0] 113))
  have hK1:=hK2.trans (ay.below (qB:=qB) (by omega) (aj w1 (.cells #[.int .u64 0,.int .u64 0,.int .u64 0,.int .u64 0] 113)))
  have hxa:=hxa.kept (aj w1 (.cells #[.int .u64 0,.int .u64 0,.int .u64 0,.int .u64 0] 113))
  have hrb:r<w1.heap.size:=by omega
  have hbb:qB≤w1.heap.size:=by omega
  clear hS hK2 hsz
  generalize hbq:w1.heap.size=b2 at *
  clear hbq
  have hne:b1≠b2:=by omega
  clear hab
  refine dw (T:=[15,17]) (i:=15) (by kernel_rfl) rfl (fun w1 hl K hK=>?_)
  have hxs:=hxb.kept hl
  have hxd:=hxa.kept hl
  have hS:=hS1.kept hl
  have hK2:=hK1.trans (ay.below (qB:=qB) (by have:=hS1.box.lt;omega) hl)
  obtain⟨f0,f1,f2,f3⟩:_∧_∧_∧_:=⟨hxs.free 0,hxs.free 1,hxs.free 2,hxs.free 3⟩
  obtain⟨c0,c1,c2,c3⟩:_∧_∧_∧_:=⟨hxs.cell 0,hxs.cell 1,hxs.cell 2,hxs.cell 3⟩
  clear hl hS1 hK1 hxa hxb
  go_simp
  refine hK.out _ _ (fun h=>absurd h (by decide)) ?_
  clear hK K c0 c1 c2 c3 f0 f1 f2 f3
  have Ad:=hxs.eG rfl (.int .u64 (word s 0:Nat)) (.int .u64 (word s 1:Nat)) (.int .u64 (word s 2:Nat)) (.int .u64 (word s 3:Nat))
  have Ae:=hxd.C9 (b':=b2) (by exact hne.symm.symm) (.int .u64 (word s 0:Nat)) (.int .u64 (word s 1:Nat)) (.int .u64 (word s 2:Nat)) (.int .u64 (word s 3:Nat))
  have hS1:=hS.zC hxs (Nat.ne_of_lt hrb) hbb (.int .u64 (word s 0:Nat)) (.int .u64 (word s 1:Nat)) (.int .u64 (word s 2:Nat)) (.int .u64 (word s 3:Nat))
  have hK1:=hK2.trans (ay.zC w1 hbb (Nat.le_of_lt hrb) (.int .u64 (word s 0:Nat)) (.int .u64 (word s 1:Nat)) (.int .u64 (word s 2:Nat)) (.int .u64 (word s 3:Nat)))
  clear hxs hxd hS hK2
  refine Kv 16 ?_ rfl (fun w1=>?_) ?_
  rotate_left
  ·go_simp;try with_reducible rfl
  simp only[eA,eB,eC,Act.put,eD,eE,eF]
  refine dw (T:=[15,17]) (i:=17) (by kernel_rfl) rfl (fun w1 hl K hK=>?_)
  have hxs:=Ad.kept hl
  have hxd:=Ae.kept hl
  have hS:=hS1.kept hl
  have hK2:=hK1.trans (ay.below (qB:=qB) (by have:=hS1.box.lt;omega) hl)
  have r0:=hxd.cell 0
  have r1:=hxd.cell 1
  have s0:=hxd.free 0
  have s1:=hxd.free 1
  clear Ad Ae hS1 hK1 hl
  go_simp
  refine hK.out _ _ (fun h=>absurd h (by decide)) ?_
  clear hK K r0 r1 s0 s1
  have hx3:Box _ b1 #[.int .i64 0,.int .i64 0] 66:=(hxd.set 0 (.int .i64 0)).set 1 (.int .i64 0)
  have hS3:=(hS.late hxd (Nat.ne_of_lt hra) hba 0 (.int .i64 0)).late (hxd.set 0 (.int .i64 0)) (Nat.ne_of_lt hra) hba 1 (.int .i64 0)
  have hK3:=(hK2.trans (ay.late (r:=r) (qB:=qB) w1 (i:=0) hba (by omega) (.int .i64 0))).trans (ay.late (r:=r) (qB:=qB) _ (i:=1) hba (by omega) (.int .i64 0))
  have Af:=(hxs.other ⟨b1,0,none⟩ (.int .i64 0) hne.symm).other ⟨b1,1,none⟩ (.int .i64 0) hne.symm
  clear hxd hS hK2 hxs
  refine kK (by kernel_rfl) (fun w1 hl=>?_) _
  have hx4:=hx3.kept hl
  have hS4:=hS3.kept hl
  have hK4:=hK3.trans (ay.below (qB:=qB) (by have:=hS3.box.lt;omega) hl)
  have RG:Box w1 b2 (bT s) 113:=Af.kept hl
  clear hx3 hS3 hK3 hl Af
  have r0:=hx4.cell 0
  have r1:=hx4.cell 1
  have CG:=hK4.others.size
  obtain⟨⟨c0,c1,c2,c3⟩,_⟩:=RG.jv
  go_wp2_with (go_at_call 225;go_must (refine(yR.out _ hS4 (by omega)).mono ?_;rintro e w4 ⟨rfl,hS7,hK7⟩))
  go_end0
  exact⟨rfl,hS7,hK4.trans hK7⟩
end
end Go.Proofs.YtengfapcaaacaaaGreatDoor
