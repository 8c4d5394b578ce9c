/- The texts of E21, in few letters (mini.py). -/
import Derived.Test.YtengfapcaaacaaaGreatDoorF20
set_option linter.unusedVariables false
set_option linter.unusedSimpArgs false
set_option maxRecDepth 20000
set_option maxHeartbeats 3200000
namespace Go.Proofs.YtengfapcaaacaaaGreatDoor
section
open Go.RowKit
def eU(f g:Nat→Nat):List Nat:=aC (aH (iV f g)) 256
theorem Dh(f g:Nat→Nat):∀ c∈eU f g,c<256:=jQ _ 256
theorem aa5(f:Nat→Nat):eU f f=aC (aH (aY f)) 256:=nI 256 fun b c _ _=>by rw[qL,Bool.and_self]
def Bo(A B:aQ)(p:Nat×Nat):Prop:=p.1<A.label.length∧p.2<B.label.length
def yE:List ((Nat×Nat)×Int×Nat):=[((0,0),-1,0)]
def fZ(A B:aQ):List ((Nat×Nat)×Int×Nat):=Ac (fP A B) (eU A.of B.of) (A.label.length*B.label.length+1) 0 yE
theorem aa6{A B:aQ}(hA:gQ A)(hB:gQ B){p:Nat×Nat}(h:Bo A B p){c:Nat}(hc:c<256):Bo A B (fP A B p c):=by
 have e:(UInt8.ofNat c).toNat=c:=by rw[UInt8.toNat_ofNat'];omega
 have h1:=(hA.goI h.1 (UInt8.ofNat c)).choose_spec.choose_spec.2
 have h2:=(hB.goI h.2 (UInt8.ofNat c)).choose_spec.choose_spec.2
 rw[SS,e] at h1 h2
 exact⟨h1,h2⟩
structure wJ(A B:aQ)(f i:Nat)(l:List ((Nat×Nat)×Int×Nat)):Prop where
 run:Ac (fP A B) (eU A.of B.of) f i l=fZ A B
 good:jw (fP A B) (eU A.of B.of) (Bo A B) l
 fuel:A.label.length*B.label.length<f+i
 le:i≤l.length
section
variable {A B:aQ}
theorem wJ.start(hA:gQ A)(hB:gQ B):wJ A B (A.label.length*B.label.length+1) 0 yE :=
 ⟨rfl,jw.one _ ⟨hA.pos,hB.pos⟩ _ _,by omega,Nat.zero_le _⟩
theorem wJ.len{f i:Nat}{l:List ((Nat×Nat)×Int×Nat)}(h:wJ A B f i l):l.length≤A.label.length*B.label.length:=h.good.len fun m hm hx=>wX m hm hx
theorem wJ.fin{f i:Nat}{l:List ((Nat×Nat)×Int×Nat)}(h:wJ A B f i l)(hi:i=l.length):l=fZ A B:=by
 have:=h.run
 rw[←this]
 cases f with
 | zero=>rfl
 | succ f=>rw[Ac,hi,List.getElem?_eq_none (Nat.le_refl _)]
theorem Jv(hA:gQ A)(hB:gQ B){l:List ((Nat×Nat)×Int×Nat)}{i:Nat}(hi:i<l.length)(h:jw (fP A B) (eU A.of B.of) (Bo A B) l)(cs:List Nat)(hcs:∀ c∈cs,c∈eU A.of B.of):jw (fP A B) (eU A.of B.of) (Bo A B) (sG (fP A B) i (l[i]).1 l cs) :=
 (jw.exp (fun p hp c hc=>aa6 hA hB hp (Dh _ _ c hc)) cs l h hi rfl hcs).1
theorem wJ.next(hA:gQ A)(hB:gQ B){f i:Nat}{l:List ((Nat×Nat)×Int×Nat)}(h:wJ A B f i l)(hi:i<l.length):∃ f',wJ A B f' (i+1) (sG (fP A B) i (l[i]).1 l (eU A.of B.of)):=by
 have hl:=h.len
 obtain⟨run,good,fuel,le⟩:=h
 cases f with
 | zero=>omega
 | succ f =>
  refine⟨f,?_,Jv hA hB hi good _ (fun c hc=>hc),by omega,?_⟩
  ·rw[Ac,List.getElem?_eq_getElem hi] at run
   exact run
  ·have:=(mF (nx:=fP A B) i (l[i]).1 (eU A.of B.of) l).length_le
   omega
theorem wJ.pre{f i:Nat}{l:List ((Nat×Nat)×Int×Nat)}(h:wJ A B f i l):l <+: fZ A B:=by rw[←h.run];exact BQ f i l
theorem pJ(hA:gQ A)(hB:gQ B):jw (fP A B) (eU A.of B.of) (Bo A B) (fZ A B)∧∀ x∈fZ A B,∀ c∈eU A.of B.of,fP A B x.1 c∈(fZ A B).map (·.1) :=
 OY (fun p hp c hc=>aa6 hA hB hp (Dh _ _ c hc)) (N:=A.label.length*B.label.length) (fun m hm hx=>wX m hm hx) _ _ _ (wJ.start hA hB).good (by omega) (Nat.zero_le _) (fun j _ h=>absurd h (Nat.not_lt_zero _))
theorem BU(A B:aQ):∃ h:0<(fZ A B).length,(fZ A B)[0]=((0,0),-1,0):=by
 obtain⟨h,e⟩:=pI (BQ (nx:=fP A B) (low:=eU A.of B.of) (A.label.length*B.label.length+1) 0 yE) (i:=0) (by decide)
 exact⟨h,e⟩
theorem vM(hA:gQ A)(hB:gQ B)(q:Nat×Nat):q∈(fZ A B).map (·.1)↔jW A B (eU A.of B.of) (0,0) q:=by
 obtain⟨g,cl⟩:=pJ hA hB
 obtain⟨h0,e0⟩:=BU A B
 constructor
 ·intro hq
  obtain⟨x,hx,rfl⟩:=List.mem_map.1 hq
  obtain⟨j,hj,rfl⟩:=List.getElem_of_mem hx
  have key:∀ j (hj:j<(fZ A B).length),jW A B (eU A.of B.of) (0,0) ((fZ A B)[j]).1:=by
   intro j
   induction j using Nat.strongRecOn with
   | _ j ih =>
    intro hj
    by_cases hz:j=0
    ·subst hz;rw[e0];exact jW.refl _ _ _ _
    ·obtain⟨i,hi,c,e,hij,hc⟩:=g.fr j hj (by omega)
     rw[e];exact(ih i hij hi).on hc
  exact key j hj
 ·rintro⟨w,hw,rfl⟩
  exact SN cl w _ (List.mem_map.2 ⟨_,List.getElem_mem h0,by rw[e0]⟩) hw
def vN(bad:Nat×Nat→Bool)(l:List ((Nat×Nat)×Int×Nat)):Bool:=l.all fun x=>!bad x.1
def EG(A B:aQ):Bool:=vN (fun p=>bZ A p.1 != bZ B p.2) (fZ A B)
def yF(A B:aQ)(s:List UInt8):Bool:=vN (fun p=>bZ A p.1==s&&bZ B p.2 != s) (fZ A B)
theorem Ea{bad:Nat×Nat→Bool}{l:List ((Nat×Nat)×Int×Nat)}{i:Nat}(h:i<l.length)(hb:bad (l[i]).1=true):vN bad l=false:=by
 unfold vN
 rw[List.all_eq_false]
 exact⟨_,List.getElem_mem h,by simp[hb]⟩
theorem adV{bad:Nat×Nat→Bool}{l m:List ((Nat×Nat)×Int×Nat)}(h:l <+: m){i:Nat}(hi:i<l.length)(hb:bad (l[i]).1=true):vN bad m=false:=by
 obtain⟨hm,e⟩:=pI h hi
 exact Ea hm (by rw[e];exact hb)
theorem F9{bad:Nat×Nat→Bool}{l:List ((Nat×Nat)×Int×Nat)}(h:∀ i (hi:i<l.length),bad (l[i]).1=false):vN bad l=true:=by
 unfold vN
 rw[List.all_eq_true]
 intro x hx
 obtain⟨i,hi,rfl⟩:=List.getElem_of_mem hx
 rw[h i hi];rfl
theorem Wq(hA:gQ A)(hB:gQ B):EG A B=true↔Qp A B (eU A.of B.of) (0,0):=by
 unfold EG vN Qp
 rw[List.all_eq_true]
 constructor
 ·intro h q hq
  obtain⟨x,hx,rfl⟩:=List.mem_map.1 ((vM hA hB q).2 hq)
  have:=h x hx
  simpa using this
 ·intro h x hx
  have:=h x.1 ((vM hA hB x.1).1 (List.mem_map.2 ⟨x,hx,rfl⟩))
  simpa using this
end
end
section
open Go.RowKit
structure bM(S:Nat→Prop)(w w':World):Prop where
 os:w'.os=w.os
 tape:w'.tape=w.tape
 output:w'.output=w.output
 size:w.heap.size≤w'.heap.size
 block:∀ b,b<w.heap.size→¬ S b→w'.heap[b]?=w.heap[b]?
section
variable {S:Nat→Prop} {a b c w w':World}
theorem bM.below(h:Below w.heap.size w w'):bM S w w':=⟨h.os,h.tape,h.output,h.size,fun b hb _=>h.block b hb⟩
theorem bM.weak{T:Nat→Prop}(h:bM S w w')(hs:∀ b,S b→T b):bM T w w':=⟨h.os,h.tape,h.output,h.size,fun b hb hn=>h.block b hb fun e=>hn (hs b e)⟩
theorem bM.refl(S:Nat→Prop)(w:World):bM S w w:=.below (Below.refl _ _)
theorem bM.trans(h:bM S a b)(k:bM S b c):bM S a c :=
 ⟨k.os.trans h.os,k.tape.trans h.tape,k.output.trans h.output,Nat.le_trans h.size k.size,fun i hi hn=>(k.block i (Nat.lt_of_lt_of_le hi h.size) hn).trans (h.block i hi hn)⟩
theorem bM.set(h:bM S w w')(g:Nat)(hg:S g)(i:Nat)(u:Value):bM S w (w'.setCell ⟨g,i,none⟩ u) :=
 ⟨h.os,h.tape,h.output,by rw[World.size_setCell];exact h.size,fun b hb hn=>(heap_setCell_other _ _ _ _ (fun e=>hn (by subst e;exact hg))).trans (h.block b hb hn)⟩
theorem bM.later(h:bM S a b)(k:Below b.heap.size b c):bM S a c:=h.trans (.below k)
theorem bM.box{b:Nat}{c:Array Value}{E:TypeId}(h:bM S w w')(hx:Box w b c E)(hn:¬ S b):Box w' b c E:=(h.block b hx.lt hn).trans hx
theorem bM.toBelow{w0:World}(h:bM S w w')(hb:Below w0.heap.size w0 w)(hg:∀ b,S b→w0.heap.size≤b):Below w0.heap.size w0 w' :=
 ⟨h.os.trans hb.os,h.tape.trans hb.tape,h.output.trans hb.output,Nat.le_trans hb.size h.size,fun i hi=>(h.block i (Nat.lt_of_lt_of_le hi hb.size) (fun e=>absurd (hg i e) (by omega))).trans (hb.block i hi)⟩
theorem bM.cell(h:bM S w w'){ad:Addr}{v:Value}(hc:w.cell? ad=some v)(hn:¬ S ad.block):w'.cell? ad=some v:=by
 rw[←hc];exact World.cell?_of_block (h.block _ (World.block_lt_of_cell? w _ hc) hn)
end
abbrev things(cs:Array Value)(n:Nat)(up:Nat→Nat):Prop:=cs.size=n*3∧∀ i,i<n→cs[i*3]?=some (.int .i64 (up i:Nat))∧(∃ l:Int,cs[i*3+1]?=some (.int .i64 l))∧∃ m:Int,cs[i*3+2]?=some (.int .i64 m)
theorem things.up{cs:Array Value}{n:Nat}{up:Nat→Nat}(h:things cs n up){k x:Nat}(hk:k<n):things (cs.setIfInBounds (k*3) (.int .i64 (x:Nat))) n (kG up k x):=by
 refine⟨by rw[Array.size_setIfInBounds];exact h.1,fun i hi=>?_⟩
 obtain⟨h1,⟨l,h2⟩,⟨m,h3⟩⟩:=h.2 i hi
 have hs:=h.1
 refine⟨?_,⟨l,?_⟩,⟨m,?_⟩⟩
 ·rw[Array.getElem?_setIfInBounds]
  by_cases e:i=k
  ·subst e;rw[if_pos rfl,if_pos (by omega),gu]
  ·rw[if_neg (by omega),kH _ _ e];exact h1
 ·rw[Array.getElem?_setIfInBounds,if_neg (by omega)];exact h2
 ·rw[Array.getElem?_setIfInBounds,if_neg (by omega)];exact h3
theorem things.other{cs:Array Value}{n:Nat}{up:Nat→Nat}(h:things cs n up){k j:Nat}(hk:k<n)(hj:j=1∨j=2)(x:Int):things (cs.setIfInBounds (k*3+j) (.int .i64 x)) n up:=by
 refine⟨by rw[Array.size_setIfInBounds];exact h.1,fun i hi=>?_⟩
 obtain⟨h1,⟨l,h2⟩,⟨m,h3⟩⟩:=h.2 i hi
 have hs:=h.1
 refine⟨?_,?_,?_⟩
 ·rw[Array.getElem?_setIfInBounds,if_neg (by omega)];exact h1
 ·rw[Array.getElem?_setIfInBounds]
  split
  ·rw[if_pos (by omega)];exact⟨x,rfl⟩
  ·exact⟨l,h2⟩
 ·rw[Array.getElem?_setIfInBounds]
  split
  ·rw[if_pos (by omega)];exact⟨x,rfl⟩
  ·exact⟨m,h3⟩
structure jX(w:World)(ub tb n:Nat)(h:Nat→Nat)(H:Nat)(up rep:Nat→Nat)(k:Nat):Prop where
 uf:UF n h H up rep
 box:Box w ub #[.slice (some ⟨tb,0,none⟩) n n,.int .i64 (k:Nat)] 198
 row:∃ cs,Box w tb cs 200∧things cs n up
 big:n≤1048576∧k≤1048576
 cnt:k=Ad n rep
section
variable {w w':World} {ub tb n H k:Nat} {h up rep:Nat→Nat}
theorem jX.ne(u:jX w ub tb n h H up rep k):ub≠tb:=fun e=>by
 obtain⟨cs,hb,_⟩:=u.row
 subst e
 exact absurd (u.box.iD hb) (by decide)
theorem jX.later(u:jX w ub tb n h H up rep k)(hb:Below w.heap.size w w'):jX w' ub tb n h H up rep k:=by
 obtain⟨cs,hx,ht⟩:=u.row
 exact⟨u.uf,u.box.kept hb,⟨cs,hx.kept hb,ht⟩,u.big,u.cnt⟩
theorem jX.only{S:Nat→Prop}(u:jX w ub tb n h H up rep k)(hb:bM S w w')(h1:¬ S ub)(h2:¬ S tb):jX w' ub tb n h H up rep k:=by
 obtain⟨cs,hx,ht⟩:=u.row
 exact⟨u.uf,hb.box u.box h1,⟨cs,hb.box hx h2,ht⟩,u.big,u.cnt⟩
theorem jX.cells(u:jX w ub tb n h H up rep k):w.cell? ⟨ub,0,none⟩=some (.slice (some ⟨tb,0,none⟩) n n)∧w.cell? ⟨ub,1,none⟩=some (.int .i64 (k:Nat))∧ub<w.heap.size∧tb<w.heap.size∧∀ i,i<n→w.cell? ⟨tb,i*3,none⟩=some (.int .i64 (up i:Nat)):=by
 obtain⟨cs,hx,ht⟩:=u.row
 exact⟨u.box.cell 0,u.box.cell 1,u.box.lt,hx.lt,fun i hi=>(hx.cell _).trans (ht.2 i hi).1⟩
theorem air(w:World)(hc:w.cell? ⟨ub,0,none⟩=some (.slice (some ⟨tb,0,none⟩) n n))(hl:ub<w.heap.size):Calls Tryz.prog 206 #[.pointer (some ⟨ub,0,none⟩)] w fun e w'=>e=.returned (.int .i64 n)∧w'=w:=by
 go_enter Tryz.func206,Tryz.ntmps206
 go_wp2
 go_ret
 exact⟨rfl,rfl⟩
theorem ag8(pb x:Nat)(hx:x<n)(u:jX w ub tb n h H up rep k)(hp:Box w pb #[.pointer (some ⟨ub,0,none⟩)] 126) :
  Calls Tryz.prog 207 #[.int .i64 x,.pointer (some ⟨pb,0,none⟩)] w fun e w'=>e=.returned (.int .i64 (up (up x):Nat))∧jX w' ub tb n h H (kG up x (up (up x))) rep k∧bM (·=tb) w w':=by
 obtain⟨cs,hr,ht⟩:=u.row
 obtain⟨p0,p1,p2,p3,p4⟩:=u.cells
 have hux:=u.uf.lt x hx
 have huu:=u.uf.lt _ hux
 have hnb:=u.big.1
 have q0:w.cell? ⟨pb,0,none⟩=some (.pointer (some ⟨ub,0,none⟩)):=hp.cell 0
 have ql:=hp.lt
 have c1:=p4 x hx
 have c2:=p4 _ hux
 have hB:=u.box
 have hne:=u.ne
 have hpt:pb≠tb:=fun e=>by subst e;exact absurd (hp.iD hr) (by decide)
 have HF:Hid (∀ v,Later w.drew v→Box v tb cs 200∧Box v ub #[.slice (some ⟨tb,0,none⟩) n n,.int .i64 (k:Nat)] 198∧Box v pb #[.pointer (some ⟨ub,0,none⟩)] 126∧v.cell? ⟨tb,up x*3,none⟩=some (.int .i64 (up (up x):Nat))∧v.cell? ⟨tb,x*3,none⟩=some (.int .i64 (up x:Nat))∧Below w.heap.size w v):=ah fun v hl=>by
  have h1:Below w.heap.size w v:=((Below.refl _ w).drew).trans (hl.mono (Nat.le_refl _))
  exact⟨hr.kept h1,hB.kept h1,hp.kept h1,(hr.kept h1).cell _ |>.trans (ht.2 _ hux).1,(hr.kept h1).cell _ |>.trans (ht.2 _ hx).1,h1⟩
 have HU:=ah (And.intro u.uf (And.intro u.big ht))
 have tu:=ah (And.intro hne hpt)
 have HC:=ah u.cnt
 have hs:=ht.1
 have HS:=ah hs
 obtain⟨y,hy⟩:∃ y,up x=y:=⟨_,rfl⟩
 rw[hy] at c1 c2 hux huu HF
 have HY:=ah hy
 obtain⟨z,hz⟩:∃ z,up y=z:=⟨_,rfl⟩
 rw[hy,hz]
 rw[hz] at c2 huu HF
 have HZ:=ah hz
 have x0:(0:Int)≤(x:Int):=by omega
 have x1:(x:Int)<(n:Int):=by omega
 have y0:(0:Int)≤(y:Int):=by omega
 have y1:(y:Int)<(n:Int):=by omega
 clear u hr ht hp hy hz p4 hB hne hpt hs
 go_enter Tryz.func207,Tryz.ntmps207
 go_wp2_with fail
 clear p0 p1 p2 p3 q0 ql c1 c2
 refine aO (R:=Later) 15 (by kernel_rfl) ?_
 refine pl [0,1,2,3,4,5,6,7,8,9,10,11,12,13,14] ?_
 repeat
  refine dR ?_ rfl (fun w1 hl=>?_) ?_
  rotate_left
  ·obtain⟨hr,hB,hp,c2,c1,_⟩:=HF.out w1 hl;have p0:w1.cell? ⟨ub,0,none⟩=some (.slice (some ⟨tb,0,none⟩) n n):=hB.cell 0;have q0:w1.cell? ⟨pb,0,none⟩=some (.pointer (some ⟨ub,0,none⟩)):=hp.cell 0;have l0:=hr.lt;have l1:=hB.lt;have l2:=hp.lt;go_simp;try with_reducible rfl
  simp only[eA,eB,eC,Act.put,eD,eE,eF]
 refine bV ?_
 refine bg (t:=15) (i:=15) (by kernel_rfl) rfl (fun w1 hl K hK=>?_)
 obtain⟨hr,hB,hp,c2,c1,hB1⟩:=HF.out w1 hl
 have l0:=hr.lt
 have f0:=hr.free (x*3)
 clear hl HF
 go_simp
 refine hK.out _ _ (fun h=>absurd rfl h) ?_
 clear hK K c1 c2 f0
 have hr2:=hr.set (x*3) (.int .i64 (z:Nat))
 have hB2:=hB.other ⟨tb,x*3,none⟩ (.int .i64 (z:Nat)) tu.out.1
 have hp2:=hp.other ⟨tb,x*3,none⟩ (.int .i64 (z:Nat)) tu.out.2
 have hO2:bM (·=tb) w (w1.setCell ⟨tb,x*3,none⟩ (.int .i64 (z:Nat))):=bM.set (S:=(·=tb)) (bM.below hB1) tb rfl _ _
 clear hr hB hp hB1 l0
 generalize w1.setCell ⟨tb,x*3,none⟩ (.int .i64 (z:Nat))=w2 at *
 refine aV (by kernel_rfl) (fun w1 hl=>?_) _
 have hr3:=hr2.kept hl
 have hB3:=hB2.kept hl
 have hp3:=hp2.kept hl
 have hO3:=hO2.later hl
 have c0:w1.cell? ⟨tb,x*3,none⟩=some (.int .i64 (z:Nat)):=(hr3.cell _).trans (by rw[Array.getElem?_setIfInBounds,if_pos rfl,if_pos (by rw[HS.out];omega)])
 have p0:w1.cell? ⟨ub,0,none⟩=some (.slice (some ⟨tb,0,none⟩) n n):=hB3.cell 0
 have q0:w1.cell? ⟨pb,0,none⟩=some (.pointer (some ⟨ub,0,none⟩)):=hp3.cell 0
 have l0:=hr3.lt;have l1:=hB3.lt;have l2:=hp3.lt
 have HR3:=ah hr3;have HB3:=ah hB3;have Ws:=ah hO3
 clear hr2 hB2 hp2 hO2 hl hr3 hB3 hp3 hO3
 go_wp2
 go_ret
 obtain⟨u1,u2,u3⟩:=HU.out
 refine⟨rfl,⟨?_,HB3.out,⟨_,HR3.out,u3.up hx⟩,u2,HC.out⟩,Ws.out⟩
 have:=u1.half hx
 rwa[HY.out,HZ.out] at this
theorem ais(i:Nat)(hi:i<n)(u:jX w ub tb n h H up rep k) :
  Calls Tryz.prog 163 #[.pointer (some ⟨ub,0,none⟩),.int .i64 i] w fun e w'=>e=.returned (.int .i64 (rep i:Nat))∧bM (·=tb) w w'∧∃ up',jX w' ub tb n h H up' rep k:=by
 have hb0:=aj w (.cells #[.pointer (some ⟨ub,0,none⟩)] 126)
 have u1:=u.later hb0
 have hp1:=Box.new w #[.pointer (some ⟨ub,0,none⟩)] 126
 obtain⟨p0,_,p2,p3,_⟩:=u1.cells
 have ht:w.heap.size≠tb:=by have:=u.cells.2.2.2.1;omega
 have O1:=bM.below (S:=(·=tb)) hb0
 have q0:(w.alloc (.cells #[.pointer (some ⟨ub,0,none⟩)] 126)).cell? ⟨w.heap.size,0,none⟩=some (.pointer (some ⟨ub,0,none⟩)):=hp1.cell 0
 have i0:(0:Int)≤(i:Int):=by omega
 have i1:(i:Int)<(n:Int):=by omega
 have i2:decide ((i:Int)<0)=false:=by simp
 have i3:decide (n≤i)=false:=by simp;omega
 have U1:=ah u1;have HP1:=ah hp1;have HO1:=ah O1;have HT:=ah ht
 clear u u1 hp1 O1 hb0 ht
 go_enter Tryz.func163,Tryz.ntmps163
 go_wp2_with (go_at_call 206;go_must (refine(air _ p0 p2).mono ?_;rintro e w1 ⟨rfl,rfl⟩))
 clear p0 p2 p3 q0
 go_loopw [1] (fun v1 wr=>∃ (j:Nat) (up':Nat→Nat),j<n∧v1=.int .i64 j∧rep j=rep i∧jX wr ub tb n h H up' rep k∧Box wr w.heap.size #[.pointer (some ⟨ub,0,none⟩)] 126∧bM (·=tb) w wr) (fun v1 _=>H - h (intOf v1).toNat)
 case atStart=>exact⟨i,up,hi,rfl,rfl,U1.out,HP1.out,HO1.out⟩
 case round =>
  obtain⟨j,up',hj,rfl,hr,hu,hp,hO⟩:=hrel
  obtain⟨p0,_,p2,p3,p4⟩:=hu.cells
  have c0:=p4 j hj
  have q0:wr.cell? ⟨w.heap.size,0,none⟩=some (.pointer (some ⟨ub,0,none⟩)):=hp.cell 0
  have ql:=hp.lt
  have j0:(0:Int)≤(j:Int):=by omega
  have j1:(j:Int)<(n:Int):=by omega
  obtain⟨y,hy⟩:∃ y,up' j=y:=⟨_,rfl⟩
  rw[hy] at c0
  by_cases e:y=j
  ·have e2:((y:Int) != (j:Int))=false:=by simp[e]
   have HR:Hid (rep j=rep i):=ah hr
   have hroot:rep j=j:=hu.uf.root j hj (hy.trans e)
   rw[hroot] at hr
   have HJ:=ah hr
   clear hr HR
   have HU:=ah hu;have HO:=ah hO
   clear hu hO hp hy p4 hroot
   go_wp2
   go_ret
   exact⟨by rw[←HJ.out];rfl,HO.out,_,HU.out⟩
  ·have e2:((y:Int) != (j:Int))=true:=by simp;omega
   have HM:Hid (rep y=rep i∧rep (up' y)=rep i∧up' y<n∧H - h (up' y)<H - h j):=ah (by
    have a1:=hu.uf.lt j hj
    rw[hy] at a1
    have a2:=hu.uf.step j hj
    rw[hy] at a2
    have a3:=hu.uf.grow j hj (by rw[hy];exact e)
    rw[hy] at a3
    have a4:=hu.uf.le a1
    have a5:=hu.uf.bound _ (hu.uf.lt y a1)
    exact⟨a2.trans hr,(hu.uf.step y a1).trans (a2.trans hr),hu.uf.lt y a1,by omega⟩)
   have HC:=ah (ag8 (w.heap.size) j hj hu hp)
   have HP:=ah hp;have HO:=ah hO;have HY:=ah hy
   clear hu hO hp hy p4 hr
   go_wp2_with (go_at_call 207;go_must (refine HC.out.mono ?_;rintro e w3 ⟨rfl,hu3,hO3⟩;rw[HY.out] at hu3 ⊢))
   go_roundw
   case rel=>exact⟨up' y,_,HM.out.2.2.1,rfl,HM.out.2.1,hu3,hO3.box HP.out HT.out,HO.out.trans hO3⟩
   case measure=>simp only[intOf,Int.toNat_natCast];exact HM.out.2.2.2
def alm(ub tb n:Nat)(h:Nat→Nat)(H:Nat)(rep:Nat→Nat)(k i j:Nat)(w':World):Prop :=
 (rep i=rep j∧∃ up',jX w' ub tb n h H up' rep k)∨(rep i≠rep j∧∃ a b up' h' H' k',((a=rep i∧b=rep j)∨(b=rep i∧a=rep j))∧k'+1=k∧jX w' ub tb n h' H' up' (fun y=>if rep y=b then a else rep y) k')
theorem dl{w v:World}(h:Later w.drew v):Below w.heap.size w v:=((Below.refl _ w).drew).trans (Below.mono h (Nat.le_refl _))
theorem ag9(i j:Nat)(hi:i<n)(hj:j<n)(u:jX w ub tb n h H up rep k) :
  Calls Tryz.prog 118 #[.pointer (some ⟨ub,0,none⟩),.int .i64 i,.int .i64 j] w fun e w'=>e=.returned (.bool (rep i != rep j))∧bM (fun b=>b=tb∨b=ub) w w'∧alm ub tb n h H rep k i j w':=by
 have HT:=ah (fun(v:World) (up':Nat→Nat) (hu:jX v ub tb n h H up' rep k) (x:Nat) (hx:x<n)=>ais x hx hu)
 have HU:=ah u
 have ri:=u.uf.H9 i hi
 have rj:=u.uf.H9 j hj
 have HRR:=ah (And.intro (u.uf.Rk hi) (u.uf.Rk hj))
 have hnb:=u.big.1
 obtain⟨a,ha⟩:∃ a,rep i=a:=⟨_,rfl⟩
 obtain⟨b,hb⟩:∃ b,rep j=b:=⟨_,rfl⟩
 have HA:=ah ha;have HB:=ah hb
 rw[ha] at ri;rw[hb] at rj
 rw[ha,hb]
 clear u ha hb
 go_enter Tryz.func118,Tryz.ntmps118
 go_wp2_with fail
 refine(HT.out _ _ HU.out i hi).mono ?_
 rintro e w1 ⟨rfl,O1,up1,hu1⟩
 rw[HA.out]
 have HU1:=ah hu1;have HO1:=ah O1
 clear hu1 O1 HU
 have a0:decide ((a:Int)<0)=false:=by simp
 have b0:decide ((b:Int)<0)=false:=by simp
 by_cases hab:a=b
 ·have e1:((a:Int)==(b:Int))=true:=by simp[hab]
  have e2:(a==b)=true:=by simp[hab]
  have e3:(a != b)=false:=by simp[hab]
  have HAB:=ah hab
  clear hab
  go_wp2_with fail
  refine(HT.out _ _ HU1.out j hj).mono ?_
  rintro e w2 ⟨rfl,hO2,SV,hu2⟩
  rw[HB.out]
  have Iq:=ah hu2;have HO2:=ah hO2
  clear hu2 hO2
  go_wp2
  go_ret
  exact⟨by rw[e3];rfl,bM.weak (HO1.out.trans HO2.out) fun _=>.inl,.inl ⟨by rw[HA.out,HB.out];exact HAB.out,_,Iq.out⟩⟩
 ·have e1:((a:Int)==(b:Int))=false:=by simp;omega
  have e2:(a==b)=false:=by simp[hab]
  have e3:(a != b)=true:=by simp[hab]
  have HAB:=ah hab
  clear hab
  go_wp2_with fail
  refine(HT.out _ _ HU1.out j hj).mono ?_
  rintro e w2 ⟨rfl,hO2,SV,hu2⟩
  rw[HB.out]
  obtain⟨cs,hr,ht⟩:=hu2.row
  have hX:=hu2.box
  have hO:=bM.weak (T:=fun b=>b=tb∨b=ub) (HO1.out.trans hO2) fun _=>.inl
  obtain⟨_,⟨l1,g1⟩,⟨m1,g2⟩⟩:=ht.2 a ri
  obtain⟨_,⟨l2,g3⟩,⟨m2,g4⟩⟩:=ht.2 b rj
  have hne:=hu2.ne
  have HF:Hid (∀ v,Later w2.drew v→Box v tb cs 200∧Box v ub #[.slice (some ⟨tb,0,none⟩) n n,.int .i64 (k:Nat)] 198):=ah fun v hl=>⟨hr.kept (dl hl),hX.kept (dl hl)⟩
  have HO:=ah hO
  have G2:=ah g2;have G4:=ah g4
  have Iq:=ah (And.intro hu2.uf (And.intro hu2.big (And.intro hu2.cnt ht)))
  have tu:=ah hne
  have hs:=ht.1
  have HS:=ah hs
  have a1:(a:Int)<(n:Int):=by omega
  have b1:(b:Int)<(n:Int):=by omega
  have a2:(0:Int)≤(a:Int):=by omega
  have b2:(0:Int)≤(b:Int):=by omega
  clear hu2 hO2 hr ht hX g1 g2 g3 g4 hO hne hs HU1 HO1 HT
  go_wp2_with fail
  refine aO (R:=Later) 17 (by kernel_rfl) ?_
  refine pl [0,1,2,3,4,5,6,7,8,9,10,11,12,13,14,15,16] ?_
  repeat
   refine dR ?_ rfl (fun w1 hl=>?_) ?_
   rotate_left
   ·obtain⟨hr,hX⟩:=HF.out w1 hl;have p0:w1.cell? ⟨ub,0,none⟩=some (.slice (some ⟨tb,0,none⟩) n n):=hX.cell 0;have q1:w1.cell? ⟨tb,a*3+2,none⟩=some (.int .i64 m1):=(hr.cell _).trans G2.out;have q2:w1.cell? ⟨tb,b*3+2,none⟩=some (.int .i64 m2):=(hr.cell _).trans G4.out;have l0:=hr.lt;have l1:=hX.lt;go_simp;try with_reducible rfl
   simp only[eA,eB,eC,Act.put,eD,eE,eF]
  refine bV ?_
  refine aV (by kernel_rfl) (fun w1 hl=>?_) _
  obtain⟨hr3,fD⟩:=HF.out w1 hl
  have hO3:=HO.out.later (dl hl)
  clear HF hl HO
  have HR3:=ah hr3;have HX3:=ah fD;have Ws:=ah hO3
  clear hr3 fD hO3
  by_cases hm:m1<m2
  focus
   have e4:decide (m1<m2)=true:=by simp[hm]
   go_wp2_with fail
   obtain⟨x,y,hx,hy,hxy⟩:∃ x y,b=x∧a=y∧((x=a∧y=b)∨(x=b∧y=a)):=⟨_,_,rfl,rfl,.inr ⟨rfl,rfl⟩⟩
   simp only[hx,hy]
  rotate_left
  focus
   have e4:decide (m1<m2)=false:=by simp[hm]
   go_wp2_with fail
   obtain⟨x,y,hx,hy,hxy⟩:∃ x y,a=x∧b=y∧((x=a∧y=b)∨(x=b∧y=a)):=⟨_,_,rfl,rfl,.inl ⟨rfl,rfl⟩⟩
   simp only[hx,hy]
  all_goals
   have iT:Hid (x<n∧y<n∧x≠y∧SV x=x∧SV y=y∧rep x=x∧rep y=y):=ah (by
    have t1:=Iq.out.1.top i hi
    have t2:=Iq.out.1.top j hj
    have t3:=HRR.out
    rw[HA.out,HB.out] at t3
    rw[HA.out] at t1;rw[HB.out] at t2
    have:=HAB.out
    rcases hxy with⟨rfl,rfl⟩ | ⟨rfl,rfl⟩
    ·exact⟨ri,rj,this,t1,t2,t3.1,t3.2⟩
    ·exact⟨rj,ri,fun e=>this e.symm,t2,t1,t3.2,t3.1⟩)
   have HW:=ah hxy
   have x1:(x:Int)<(n:Int):=by have:=iT.out.1;omega
   have y1:(y:Int)<(n:Int):=by have:=iT.out.2.1;omega
   have x2:(0:Int)≤(x:Int):=by omega
   have y2:(0:Int)≤(y:Int):=by omega
   have HF6:Hid (∀ v,Later w1.drew v→Box v tb cs 200∧Box v ub #[.slice (some ⟨tb,0,none⟩) n n,.int .i64 (k:Nat)] 198):=ah fun v hl=>⟨HR3.out.kept (dl hl),HX3.out.kept (dl hl)⟩
   clear hxy hx hy a1 a2 b1 b2 a0 b0 hm e4 e1 e2
   refine aO (R:=Later) 14 (by kernel_rfl) ?_
   refine pl [0,1,2,3,4,5,6,7,8,9,10,11,12,13] ?_
   repeat
    refine dR ?_ rfl (fun w1 hl=>?_) ?_
    rotate_left
    ·obtain⟨hr,hX⟩:=HF6.out w1 hl;have p0:w1.cell? ⟨ub,0,none⟩=some (.slice (some ⟨tb,0,none⟩) n n):=hX.cell 0;have l0:=hr.lt;have l1:=hX.lt;go_simp;try with_reducible rfl
    simp only[eA,eB,eC,Act.put,eD,eE,eF]
   refine bV ?_
   refine aV (by kernel_rfl) (fun w1 hl=>?_) _
   have hr6:=(HF6.out w1 hl).1
   have oZ:=(HF6.out w1 hl).2
   have hO6:=Ws.out.later (dl hl)
   have FV:=Iq.out.2.2.2
   clear hl HF6 HR3 HX3 Ws
   obtain⟨cs7,hr7,OG⟩:∃ cs7,Box (w1.setCell ⟨tb,y*3,none⟩ (.int .i64 (x:Nat))) tb cs7 200∧things cs7 n (kG SV y x):=⟨_,hr6.set _ _,FV.up iT.out.2.1⟩
   have tC:=oZ.other ⟨tb,y*3,none⟩ (.int .i64 (x:Nat)) tu.out
   have hO7:=hO6.set tb (.inl rfl) (y*3) (.int .i64 (x:Nat))
   have q1:w1.cell? ⟨tb,y*3,none⟩=some (.int .i64 (SV y:Nat)):=(hr6.cell _).trans (FV.2 y iT.out.2.1).1
   have f1:=hr6.free (y*3)
   have l1:=hr6.lt
   have Wu:=ah hr7;have HT7:=ah OG;have HX7:=ah tC;have HO7:=ah hO7
   clear hr7 OG tC hO7 hr6 oZ hO6 FV
   go_wp2_with fail
   clear q1 f1 l1
   generalize w1.setCell ⟨tb,y*3,none⟩ (.int .i64 (x:Nat))=w7 at *
   obtain⟨_,⟨lx,gx1⟩,⟨mx,gx2⟩⟩:=HT7.out.2 x iT.out.1
   obtain⟨_,⟨ly,gy1⟩,⟨my,gy2⟩⟩:=HT7.out.2 y iT.out.2.1
   have HG:=ah (And.intro gx1 (And.intro gx2 (And.intro gy1 gy2)))
   clear gx1 gx2 gy1 gy2
   have Ir:Hid (∀ v,Later w7.drew v→Box v tb cs7 200∧v.cell? ⟨tb,x*3+2,none⟩=some (.int .i64 mx)∧v.cell? ⟨tb,y*3+2,none⟩=some (.int .i64 my)):=ah fun v hl=>⟨Wu.out.kept (dl hl),((Wu.out.kept (dl hl)).cell _).trans HG.out.2.1,((Wu.out.kept (dl hl)).cell _).trans HG.out.2.2.2⟩
   refine aO (R:=Later) 11 (by kernel_rfl) ?_
   refine pl [0,1,2,3,4,5,6,7,8,9,10] ?_
   repeat
    refine dR ?_ rfl (fun w1 hl=>?_) ?_
    rotate_left
    ·obtain⟨hr,q1,q2⟩:=Ir.out w1 hl;have l0:=hr.lt;go_simp;try with_reducible rfl
    simp only[eA,eB,eC,Act.put,eD,eE,eF]
   refine bV ?_
   refine bg (t:=11) (i:=11) (by kernel_rfl) rfl (fun w1 hl K hK=>?_)
   obtain⟨hr,q1,q2⟩:=Ir.out w1 hl
   have l0:=hr.lt
   have f0:=hr.free (x*3+2)
   have tC:=HX7.out.kept (dl hl)
   have hO7:=HO7.out.later (dl hl)
   clear hl Ir
   go_simp
   refine hK.out _ _ (fun h=>absurd rfl h) ?_
   clear hK K
   obtain⟨vv,hvv⟩:∃ vv:Int,IntKind.i64.wrap (mx+my)=vv:=⟨_,rfl⟩
   try simp only[hvv]
   obtain⟨cs8,hr8,ht8⟩:∃ cs8,Box (w1.setCell ⟨tb,x*3+2,none⟩ (.int .i64 vv)) tb cs8 200∧things cs8 n (kG SV y x):=⟨_,hr.set _ _,HT7.out.other iT.out.1 (.inr rfl) vv⟩
   have yU:=tC.other ⟨tb,x*3+2,none⟩ (.int .i64 vv) tu.out
   have hO8:=hO7.set tb (.inl rfl) (x*3+2) (.int .i64 vv)
   clear q1 q2 l0 f0 hr tC hO7 hvv
   generalize w1.setCell ⟨tb,x*3+2,none⟩ (.int .i64 vv)=w8 at *
   refine aV (by kernel_rfl) (fun w1 hl=>?_) _
   have hr9:=hr8.kept hl
   have zU:=yU.kept hl
   have Wv:=hO8.later hl
   clear hr8 yU hO8 hl
   obtain⟨_,⟨lx8,gx1⟩,_⟩:=ht8.2 x iT.out.1
   obtain⟨_,⟨ly8,gy1⟩,_⟩:=ht8.2 y iT.out.2.1
   have HG8:=ah (And.intro gx1 gy1)
   have HT8:=ah ht8
   have ED:Hid (∀ v,Later w1.drew v→Box v tb cs8 200∧Box v ub #[.slice (some ⟨tb,0,none⟩) n n,.int .i64 (k:Nat)] 198∧v.cell? ⟨tb,x*3+1,none⟩=some (.int .i64 lx8)∧v.cell? ⟨tb,y*3+1,none⟩=some (.int .i64 ly8)∧bM (fun b=>b=tb∨b=ub) w v):=ah fun v hl=>⟨hr9.kept (dl hl),zU.kept (dl hl),((hr9.kept (dl hl)).cell _).trans HG8.out.1,((hr9.kept (dl hl)).cell _).trans HG8.out.2,Wv.later (dl hl)⟩
   clear gx1 gy1 ht8 hr9 zU Wv
   go_wp2_with fail
   refine aO (R:=Later) 12 (by kernel_rfl) ?_
   refine pl [0,1,2,3,4,5,6,7,8] ?_
   repeat
    refine dR ?_ rfl (fun w1 hl=>?_) ?_
    rotate_left
    ·obtain⟨hr,hX,q1,q2,_⟩:=ED.out w1 hl;have l0:=hr.lt;go_simp;try with_reducible rfl
    simp only[eA,eB,eC,Act.put,eD,eE,eF]
   refine bV ?_
   refine jF 9 ?_ rfl (fun w1 hl=>?_) ?_
   rotate_left
   ·go_simp;try with_reducible rfl
   simp only[eA,eB,eC,Act.put,eD,eE,eF]
   refine pl [10,11] ?_
   repeat
    refine dR ?_ rfl (fun w1 hl=>?_) ?_
    rotate_left
    ·obtain⟨hr,hX,q1,q2,_⟩:=ED.out w1 hl;have l0:=hr.lt;go_simp;try with_reducible rfl
    simp only[eA,eB,eC,Act.put,eD,eE,eF]
   refine bV ?_
   refine bg (t:=12) (i:=12) (by kernel_rfl) rfl (fun w1 hl K hK=>?_)
   obtain⟨hr,hX,q1,q2,hO⟩:=ED.out w1 hl
   have l0:=hr.lt
   have f0:=hr.free (x*3+1)
   clear hl ED
   go_simp
   refine hK.out _ _ (fun h=>absurd rfl h) ?_
   clear hK K
   obtain⟨vm,hvm⟩:∃ vm:Int,min lx8 ly8=vm:=⟨_,rfl⟩
   simp only[hvm]
   obtain⟨csA,hrA,htA⟩:∃ csA,Box (w1.setCell ⟨tb,x*3+1,none⟩ (.int .i64 vm)) tb csA 200∧things csA n (kG SV y x):=⟨_,hr.set _ _,HT8.out.other iT.out.1 (.inl rfl) vm⟩
   have hXA:=hX.other ⟨tb,x*3+1,none⟩ (.int .i64 vm) tu.out
   have hOA:=hO.set tb (.inl rfl) (x*3+1) (.int .i64 vm)
   clear q1 q2 l0 f0 hr hX hO hvm
   generalize w1.setCell ⟨tb,x*3+1,none⟩ (.int .i64 vm)=wA at *
   refine aV (by kernel_rfl) (fun w1 hl=>?_) _
   have hrB:=hrA.kept hl
   have hXB:=hXA.kept hl
   have hOB:=hOA.later hl
   clear hrA hXA hOA hl
   have HTA:=ah htA
   have p1:w1.cell? ⟨ub,1,none⟩=some (.int .i64 (k:Nat)):=hXB.cell 1
   have f1:=hXB.free 1
   have l1:=hXB.lt
   have hk2:=Iq.out.2.1.2
   have hk1:=Vm iT.out.2.1 iT.out.2.2.2.2.2.2 iT.out.2.2.2.2.2.1 iT.out.2.2.1
   rw[←Iq.out.2.2.1] at hk1
   obtain⟨k',hk'⟩:∃ k',k'=Ad n (fun z=>if rep z=y then x else rep z):=⟨_,rfl⟩
   rw[←hk'] at hk1
   have HK:=ah (And.intro hk' hk1)
   have kk1:(1:Int)≤(k:Int):=by omega
   have kk2:(k:Int)≤1048576:=by omega
   have hXC:=hXB.set 1 (.int .i64 (k':Nat))
   have hrC:=hrB.other ⟨ub,1,none⟩ (.int .i64 (k':Nat)) (fun e=>tu.out e.symm)
   have hOC:=hOB.set ub (.inr rfl) 1 (.int .i64 (k':Nat))
   have HX:=ah hXC;have HR:=ah hrC;have HO:=ah hOC
   have hkk:(k:Int) - 1=(k':Int):=by omega
   clear hXC hrC hOC hXB hrB hOB htA hk' hk1
   go_wp2
   go_ret
   refine⟨by rw[e3];rfl,HO.out,.inr ⟨by rw[HA.out,HB.out];exact HAB.out,x,y,_,_,_,k',by rw[HA.out,HB.out];exact HW.out.imp id And.symm,HK.out.2,⟨Iq.out.1.join iT.out.1 iT.out.2.1 iT.out.2.2.2.1 iT.out.2.2.2.2.1 iT.out.2.2.1,HX.out,⟨_,HR.out,HTA.out⟩,⟨hnb,by omega⟩,HK.out.1⟩⟩⟩
end
end
section
open Go.RowKit
theorem YF:(Tryz.prog.info? 200).map (fun i=>(i.size,i.bytes,i.zero))=some (3,24,some (.agg #[.int .i64 0,.int .i64 0,.int .i64 0])):=by kernel_rfl
theorem YG:dI Tryz.prog 196 200 (.agg #[.int .i64 0,.int .i64 0,.int .i64 0]) 3 24:=⟨Tryz.underlying196,by
 have:=YF
 cases h:Tryz.prog.info? 200 with
 | none=>rw[h] at this;cases this
 | some i=>rw[h] at this;simp at this;exact⟨i,rfl,this.2.2,this.1,this.2.1⟩,rfl,by decide⟩
abbrev aln(_:Unit):List Value:=[.int .i64 0,.int .i64 0,.int .i64 0]
theorem adW:dX aln 3:=⟨fun _=>rfl,fun _ u hu=>by simp at hu;subst hu;rfl⟩
theorem Vo(n:Nat):things (madeCells (Value.agg #[.int .i64 0,.int .i64 0,.int .i64 0]).cells (n*3)) n (fun _=>0):=by
 refine⟨size_madeCells _ _,fun i hi=>?_⟩
 have hg:∀ k,k<n*3→(madeCells (Value.agg #[.int .i64 0,.int .i64 0,.int .i64 0]).cells (n*3))[k]?=some (.int .i64 0):=fun k hk=>by
  have hc:(Value.agg #[.int .i64 0,.int .i64 0,.int .i64 0]).cells=#[.int .i64 0,.int .i64 0,.int .i64 0]:=rfl
  rw[yL _ _ _ hk (by rw[hc];decide),hc]
  have:k % 3<3:=Nat.mod_lt _ (by decide)
  show(#[Value.int .i64 0,.int .i64 0,.int .i64 0]:Array Value)[k % 3]?=_
  match k % 3,this with
  | 0,_=>rfl
  | 1,_=>rfl
  | 2,_=>rfl
 exact⟨hg _ (by omega),⟨0,hg _ (by omega)⟩,⟨0,hg _ (by omega)⟩⟩
theorem abg(cs:Array Value)(n k:Nat)(h:things cs n (fun i=>if i<k then i else 0))(hk:k<n):things ((((cs.setIfInBounds (k*3) (.int .i64 (k:Nat))).setIfInBounds (k*3+1) (.int .i64 (k:Nat)))).setIfInBounds (k*3+2) (.int .i64 1)) n (fun i=>if i<k+1 then i else 0):=by
 have h3:=((h.up (x:=k) hk).other hk (.inl rfl) (k:Nat)).other hk (.inr rfl) 1
 have e:kG (fun i=>if i<k then i else 0) k k=fun i=>if i<k+1 then i else 0:=by
  funext i
  unfold kG
  by_cases e:i=k
  ·subst e;rw[if_pos rfl,if_pos (by omega)]
  ·rw[if_neg e]
   show(if i<k then i else 0)=_
   by_cases h:i<k
   ·rw[if_pos h,if_pos (by omega)]
   ·rw[if_neg h,if_neg (by omega)]
 rwa[e] at h3
theorem aiw(n:Nat)(hn:n≤1048576)(w:World):Calls Tryz.prog 72 #[.int .i64 n] w fun e w'=>∃ ub tb,e=.returned (.tuple #[.pointer (some ⟨ub,0,none⟩),.int .i64 0])∧w.heap.size≤ub∧w.heap.size≤tb∧jX w' ub tb n (fun _=>0) 0 (fun i=>i) (fun i=>i) n∧Below w.heap.size w w':=by
 have n0:decide ((n:Int)<0)=false:=by simp
 have n1:decide (1048576<(n:Int))=false:=by simp;omega
 have n2:decide (1048576<n)=false:=by simp;omega
 go_enter Tryz.func72,Tryz.ntmps72
 go_wp2_with (refine zG rfl 196 _ _ rfl YG adW () rfl n rfl rfl (by omega) (by simp only[maxLen];omega) w.heap.size (Nat.le_refl _) ?_;intro w1 _ hw1;have y0:=Box.new w (madeCells (Value.agg #[.int .i64 0,.int .i64 0,.int .i64 0]).cells (n*3)) 200;have hb1:=aj w (.cells (madeCells (Value.agg #[.int .i64 0,.int .i64 0,.int .i64 0]).cells (n*3)) 200);rw[←hw1] at y0 hb1;have hs1:w1.heap.size=w.heap.size+1:=by { rw[hw1,World.size_alloc] };clear hw1)
 have hcu:Box (w1.alloc (.cells #[.slice (some ⟨w.heap.size,0,none⟩) n n,.int .i64 n] 198)) (w.heap.size+1) #[.slice (some ⟨w.heap.size,0,none⟩) n n,.int .i64 n] 198:=Box.new' hs1.symm _ _
 have y1:=y0.alloc (.cells #[.slice (some ⟨w.heap.size,0,none⟩) n n,.int .i64 n] 198)
 have hb2:=hb1.alloc hb1.size (.cells #[.slice (some ⟨w.heap.size,0,none⟩) n n,.int .i64 n] 198)
 have p0:(w1.alloc (.cells #[.slice (some ⟨w.heap.size,0,none⟩) n n,.int .i64 n] 198)).cell? ⟨w.heap.size+1,0,none⟩=some (.slice (some ⟨w.heap.size,0,none⟩) n n):=hcu.cell 0
 have p1:=hcu.lt
 have HCU:=ah hcu;have HY:=ah y1;have HB:=ah hb2
 clear hcu y1 hb2 y0 hb1
 go_wp2
 clear p0 p1
 go_loopw [22] (fun v wr=>∃ (k:Nat) (cs:Array Value),k≤n∧v=.int .i64 k∧Box wr w.heap.size cs 200∧things cs n (fun i=>if i<k then i else 0)∧Box wr (w.heap.size+1) #[.slice (some ⟨w.heap.size,0,none⟩) n n,.int .i64 n] 198∧Below w.heap.size w wr) (fun v _=>n - (intOf v).toNat)
 case atStart=>exact⟨0,_,Nat.zero_le _,rfl,HY.out,by simpa using Vo n,HCU.out,HB.out⟩
 case round =>
  obtain⟨k,cs,hk,rfl,hr,ht,hx,hB⟩:=hrel
  have p0:wr.cell? ⟨w.heap.size+1,0,none⟩=some (.slice (some ⟨w.heap.size,0,none⟩) n n):=hx.cell 0
  have p1:=hx.lt
  have p2:=hr.lt
  by_cases hlt:k<n
  ·have k0:(0:Int)≤(k:Int):=by omega
   have k1:(k:Int)<(n:Int):=by omega
   obtain⟨c0,⟨l,c1⟩,⟨m,c2⟩⟩:=ht.2 k hlt
   have d0:=(hr.cell (k*3)).trans c0
   have d1:=(hr.cell (k*3+1)).trans c1
   have d2:=(hr.cell (k*3+2)).trans c2
   have f0:=hr.free (k*3)
   have f1:=hr.free (k*3+1)
   have f2:=hr.free (k*3+2)
   have hr2:=((hr.set (k*3) (.int .i64 (k:Nat))).set (k*3+1) (.int .i64 (k:Nat))).set (k*3+2) (.int .i64 1)
   have hx2:=((hx.other ⟨w.heap.size,k*3,none⟩ (.int .i64 (k:Nat)) (by show w.heap.size+1≠w.heap.size;omega)).other ⟨w.heap.size,k*3+1,none⟩ (.int .i64 (k:Nat)) (by show w.heap.size+1≠w.heap.size;omega)).other ⟨w.heap.size,k*3+2,none⟩ (.int .i64 1) (by show w.heap.size+1≠w.heap.size;omega)
   have hB2:Below w.heap.size w (((wr.setCell ⟨w.heap.size,k*3,none⟩ (.int .i64 (k:Nat))).setCell ⟨w.heap.size,k*3+1,none⟩ (.int .i64 (k:Nat))).setCell ⟨w.heap.size,k*3+2,none⟩ (.int .i64 1)):=((hB.setCell (Nat.le_refl _) _).setCell (Nat.le_refl _) _).setCell (Nat.le_refl _) _
   have ht2:=abg cs n k ht hlt
   have HR:=ah hr2;have HX:=ah hx2;have HB2:=ah hB2;have HT:=ah ht2
   clear hr hx hB ht hr2 hx2 hB2 ht2 c0 c1 c2
   go_wp2
   go_roundw
   case rel=>exact⟨k+1,_,hlt,by go_num,HR.out,HT.out,HX.out,HB2.out⟩
   case measure=>simp[intOf];omega
  ·obtain rfl:k=n:=by omega
   have HR:=ah hr;have HX:=ah hx;have HB2:=ah hB;have HT:=ah ht
   clear hr hx hB ht
   go_wp2
   go_ret2
   refine⟨_,_,rfl,Nat.le_succ _,Nat.le_refl _,⟨UF.new k,HX.out,⟨cs,HR.out,HT.out.1,fun i hi=>?_⟩,⟨hn,hn⟩,(YE k).symm⟩,HB2.out⟩
   have:=HT.out.2 i hi
   simp only[if_pos hi] at this
   exact this
end
section
open Go.RowKit
def oK(A B:aA)(t:List Value):Array Value:=A.cells++(B.cells++t.toArray)
theorem adX(A B:aA)(t:List Value):(oK A B t).size=520+t.length:=by unfold oK;rw[Array.size_append,Array.size_append,aA.size,aA.size,List.size_toArray];omega
theorem Qr(A B:aA)(t:List Value)(i:Nat)(h:i<260):(oK A B t)[i]?=A.cells[i]?:=by
 unfold oK
 rw[Array.getElem?_append_left (by rw[aA.size];exact h)]
theorem Qs(A B:aA)(t:List Value)(i:Nat)(h:i<260):(oK A B t)[260+i]?=B.cells[i]?:=by
 unfold oK
 rw[Array.getElem?_append_right (by rw[aA.size];exact Nat.le_add_right _ _),aA.size,Nat.add_sub_cancel_left,Array.getElem?_append_left (by rw[aA.size];exact h)]
theorem Lm(A B:aA)(t:List Value)(k:Nat):(oK A B t)[520+k]?=t[k]?:=by
 unfold oK
 rw[Array.getElem?_append_right (by rw[aA.size];omega),aA.size,Array.getElem?_append_right (by rw[aA.size];omega),aA.size,List.getElem?_toArray,show 520+k - 260 - 260=k by omega]
theorem aha(A B:aA)(t:List Value)(k:Nat)(v:Value):(oK A B t).setIfInBounds (520+k) v=oK A B (t.set k v):=by
 apply Array.ext_getElem?
 intro i
 rw[Array.getElem?_setIfInBounds,adX]
 by_cases h:520+k=i
 ·subst h
  rw[if_pos rfl,Lm,List.getElem?_set,if_pos rfl]
  by_cases h2:k<t.length
  ·rw[if_pos (by omega),if_pos h2]
  ·rw[if_neg (by omega),if_neg h2]
 ·rw[if_neg h]
  by_cases h2:i<260
  ·rw[Qr _ _ _ _ h2,Qr _ _ _ _ h2]
  ·by_cases h3:i<520
   ·obtain⟨j,rfl⟩:∃ j,i=260+j:=⟨i - 260,by omega⟩
    rw[Qs _ _ _ _ (by omega),Qs _ _ _ _ (by omega)]
   ·obtain⟨j,rfl⟩:∃ j,i=520+j:=⟨i - 520,by omega⟩
    rw[Lm,Lm,List.getElem?_set,if_neg (by omega)]
theorem Box.SX{w:World}{b E:Nat}{A B:aA}{t:List Value}(h:Box w b (oK A B t) E)(k:Nat)(v:Value):Box (w.setCell ⟨b,520+k,none⟩ v) b (oK A B (t.set k v)) E:=by
 have:=h.set (520+k) v
 rwa[aha] at this
theorem Box.EH{w:World}{b E:Nat}{A B:aA}{t:List Value}(h:Box w b (oK A B t) E)(k:Nat):w.cell? ⟨b,520+k,none⟩=t[k]?:=(h.cell _).trans (Lm A B t k)
theorem Box.cA{w:World}{b E:Nat}{A B:aA}{t:List Value}(h:Box w b (oK A B t) E)(i:Nat)(hi:i<260):w.cell? ⟨b,i,none⟩=A.cells[i]?:=(h.cell _).trans (Qr A B t i hi)
theorem Box.cB{w:World}{b E:Nat}{A B:aA}{t:List Value}(h:Box w b (oK A B t) E)(i:Nat)(hi:i<260):w.cell? ⟨b,260+i,none⟩=B.cells[i]?:=(h.cell _).trans (Qs A B t i hi)
abbrev Eb(p:Nat×Nat):List Value:=[.int .i64 (p.1:Nat),.int .i64 (p.2:Nat)]
theorem uD:dX Eb 2:=⟨fun _=>rfl,fun _ u hu=>by simp at hu;rcases hu with rfl | rfl <;> rfl⟩
theorem ahb:(Tryz.prog.info? 79).map (fun i=>(i.size,i.bytes,i.zero))=some (2,16,some (.agg #[.int .i64 0,.int .i64 0])):=by kernel_rfl
theorem Wx:dI Tryz.prog 74 79 (.agg #[.int .i64 0,.int .i64 0]) 2 16:=⟨Tryz.underlying74,by
 have:=ahb
 cases h:Tryz.prog.info? 79 with
 | none=>rw[h] at this;cases this
 | some i=>rw[h] at this;simp at this;exact⟨i,rfl,this.2.2,this.1,this.2.1⟩,rfl,by decide⟩
def CS(cb ub tb:Nat)(g:Option Nat)(b:Nat):Prop:=b=cb∨b=ub∨b=tb∨g=some b
structure jy(w:World)(cb ub tb top:Nat)(A B:aA)(lv:Value)(n m:Nat)(rep:Nat→Nat)(k:Nat)(W:List (Nat×Nat))(g:Option Nat):Prop where
 box:∃ a c,g=a.map (·.block)∧Box w cb (oK A B [lv,.pointer (some ⟨ub,0,none⟩),.slice a W.length c]) 128∧kU w top 79 2 Eb (.slice a W.length c) W
 uni:∃ h H up,jX w ub tb (n+m) h H up rep k
 lt:cb<top∧ub<top∧tb<top∧top≤w.heap.size
 ne:cb≠ub∧cb≠tb
section
variable {w w':World} {cb ub tb top:Nat} {A B:aA} {lv:Value} {n m:Nat} {rep:Nat→Nat} {k:Nat} {W:List (Nat×Nat)} {g:Option Nat}
theorem jy.later(h:jy w cb ub tb top A B lv n m rep k W g)(hb:Below w.heap.size w w'):jy w' cb ub tb top A B lv n m rep k W g:=by
 obtain⟨a,c,h0,h1,h2⟩:=h.box
 obtain⟨x,y,z,u⟩:=h.uni
 exact⟨⟨a,c,h0,h1.kept hb,h2.kept hb⟩,⟨x,y,z,u.later hb⟩,⟨h.lt.1,h.lt.2.1,h.lt.2.2.1,Nat.le_trans h.lt.2.2.2 hb.size⟩,h.ne⟩
theorem jy.blk(h:jy w cb ub tb top A B lv n m rep k W g)(b:Nat)(hg:g=some b):top≤b∧b<w.heap.size:=by
 obtain⟨a,c,rfl,h1,h2⟩:=h.box
 refine h2.row b ?_
 cases a with
 | none=>cases hg
 | some ad=>exact hg
end
theorem SY(V:aA)(D:aQ)(w:World)(h:aZ w V D)(hw:gQ D)(s:Nat)(hs:s<D.label.length):Calls Tryz.prog 119 #[.agg V.cells,.int .i64 s] w (bF w (sv (bZ D s))):=by
 obtain⟨e1,e2,e3⟩:=h.lens
 obtain⟨b3,o3,l3,c3,c3',a3,k3⟩:=h.2.2.1.bU
 obtain⟨b4,o4,l4,c4,Il,a4,k4⟩:=h.2.2.2.1.bU
 obtain⟨g1,g2⟩:=hw.lab _ (List.getElem_mem hs)
 have hbx:=Box.new w V.cells 27
 have hB0:=aj w (.cells V.cells 27)
 obtain⟨_,_,x2,x3⟩:=hbx.ig
 have hla:=a3 s hs
 have q1:=k3 s hs _ hB0
 have hlab:labS D s=D.label[s]:=gQ.D8 hs
 rw[hla] at x2
 have s0:(0:Int)≤(s:Int):=by omega
 have s1:(s:Int)<(V.ln:Int):=by omega
 have ql:=World.block_lt_of_cell? _ _ q1
 have hlb:V.ln≤9223372036854775807:=by omega
 have hpos:0<labS D s→∃ t,bZ D s=t∧V.ma=some ⟨b4,o4,none⟩∧(w.alloc (.cells V.cells 27)).cell? ⟨b4,o4+((labS D s).toNat - 1),none⟩=some (sv t):=fun hp=>by
  have hi:(labS D s).toNat - 1<D.names.length:=by rw[hlab] at hp ⊢;omega
  refine⟨_,rfl,a4 _ hi,?_⟩
  rw[k4 _ hi _ hB0]
  unfold bZ
  rw[if_pos hp,List.getD_eq_getElem?_getD,List.getElem?_eq_getElem hi];rfl
 have hzero:¬ 0<labS D s→bZ D s=[]:=fun hp=>by unfold bZ;rw[if_neg hp]
 have hmn:(labS D s)≤(V.mn:Int):=by rw[hlab];omega
 rw[←hlab] at q1
 have hmb:V.mn≤9223372036854775807:=by omega
 generalize labS D s=x at *
 have HB:=ah hB0
 clear h hw hbx hB0 e1 e2 e3 l3 c3 c3' a3 k3 l4 c4 Il a4 k4 g1 g2 hla hlab hs
 by_cases hx:0<x
 ·obtain⟨t,ht,hma,q2⟩:=hpos hx
  rw[ht]
  rw[hma] at x3
  obtain⟨y,hy⟩:∃ y:Nat,x.toNat - 1=y:=⟨_,rfl⟩
  rw[hy] at q2
  obtain rfl:x=(y:Int)+1:=by omega
  have e1:decide (0<(y:Int)+1)=true:=decide_eq_true (by omega)
  have y0:(0:Int)≤(y:Int):=by omega
  have y1:(y:Int)<(V.mn:Int):=by omega
  have q2l:=World.block_lt_of_cell? _ _ q2
  clear hpos hzero ht hma hy hx
  go_enter Tryz.func119,Tryz.ntmps119
  go_wp2
  go_ret
  exact⟨rfl,HB.out⟩
 ·rw[hzero hx]
  have e1:decide (0<x)=false:=by simp;omega
  clear hpos hzero hx hmn
  go_enter Tryz.func119,Tryz.ntmps119
  go_wp2
  go_ret
  exact⟨rfl,HB.out⟩
theorem Gf{o:Oper}{a:Act}{w:World}(x:Operand)(ho:o.op=.load 27 x)(b off:Nat)(hx:a.eval x=.pointer (some ⟨b,off,none⟩))(V:aA)(hc:∀ i,i<260→w.cell? ⟨b,off+i,none⟩=V.cells[i]?):(execOp a.eval o).run Tryz.prog w=.ok (.value (.agg V.cells)) w:=by
 have hr:w.rangeAt b off V.cells.toList:=fun j v hv=>by
  have hj:j<260:=by have:=(List.getElem?_eq_some_iff.1 hv).1;rwa[Array.length_toList,aA.size] at this
  rw[hc j hj,←hv,Array.getElem?_toList]
 unfold execOp
 simp only[ho,hx,Instr.loadAt,Instr.sureAddr,Sem.run_bind,Sem.run_pure,Result.andThen_ok,run_loadVar_mid w b off 27 V.cells.toList _ hr Tryz.underlying27 rfl (by rw[Array.length_toList];exact ay V)]
theorem adY(cb:Nat)(VA VB:aA)(A B:aQ)(t:List Value)(w0 w:World)(hA:aZ w0 VA A)(hB:aZ w0 VB B)(wA:gQ A)(wB:gQ B)(hw:Below w0.heap.size w0 w)(hx:Box w cb (oK VA VB t) 128)(p:Nat×Nat)(h1:p.1<A.label.length)(h2:p.2<B.label.length) :
  Calls Tryz.prog 74 #[.pointer (some ⟨cb,0,none⟩),.agg #[.int .i64 (p.1:Nat),.int .i64 (p.2:Nat)]] w (bF w (.tuple #[sv (bZ A p.1),sv (bZ B p.2)])):=by
 obtain⟨x,y⟩:=p
 dsimp only at h1 h2 ⊢
 have HA:=ah (fun(v:World) (hv:Below w0.heap.size w0 v)=>SY VA A v (hA.kept hv) wA x h1)
 have HB:=ah (fun(v:World) (hv:Below w0.heap.size w0 v)=>SY VB B v (hB.kept hv) wB y h2)
 have hb1:=aj w (.cells #[.int .i64 (x:Nat),.int .i64 (y:Nat)] 79)
 have hp:=Box.new w #[.int .i64 (x:Nat),.int .i64 (y:Nat)] 79
 have HF:Hid (∀ v,Later (w.alloc (.cells #[.int .i64 (x:Nat),.int .i64 (y:Nat)] 79)).drew v→v.cell? ⟨w.heap.size,0,none⟩=some (.int .i64 (x:Nat))∧v.cell? ⟨w.heap.size,1,none⟩=some (.int .i64 (y:Nat))∧Box v cb (oK VA VB t) 128∧Below w0.heap.size w0 v∧Below w.heap.size w v∧w.heap.size<v.heap.size):=ah fun v hl=>by
  have h1:=dl hl
  have h2:=hb1.trans (h1.mono hb1.size)
  have h3:=hp.kept h1
  exact⟨h3.cell 0,h3.cell 1,hx.kept h2,hw.trans (h2.mono hw.size),h2,h3.lt⟩
 clear hA hB wA wB hw hx h1 h2 hb1 hp
 generalize bZ A x=na at *
 generalize bZ B y=nb at *
 go_enter Tryz.func74,Tryz.ntmps74
 go_wp2_with fail
 refine aO (R:=Later) 18 (by kernel_rfl) ?_
 refine pl [0,1,2,3] ?_
 repeat
  refine dR ?_ rfl (fun w1 hl=>?_) ?_
  rotate_left
  ·obtain⟨q1,q2,hx,_,_,l0⟩:=HF.out w1 hl;have l1:=hx.lt;go_simp;try with_reducible rfl
  simp only[eA,eB,eC,Act.put,eD,eE,eF]
 refine bV ?_
 refine jF 4 (.agg VA.cells) rfl (fun w1 hl=>?_) ?_
 ·obtain⟨_,_,hx,_⟩:=HF.out w1 hl
  exact Gf _ rfl cb 0 rfl VA fun i hi=>by rw[Nat.zero_add];exact hx.cA i hi
 simp only[eA,eB,eC,Act.put,eD,eE,eF]
 refine pl [5,6] ?_
 repeat
  refine dR ?_ rfl (fun w1 hl=>?_) ?_
  rotate_left
  ·obtain⟨q1,q2,hx,_,_,l0⟩:=HF.out w1 hl;have l1:=hx.lt;go_simp;try with_reducible rfl
  simp only[eA,eB,eC,Act.put,eD,eE,eF]
 refine bV ?_
 refine yg 7 ?_ ?_ ?_ rfl (fun w1=>?_) (fun w1 hl=>?_) ?_
 rotate_left 4
 ·exact HA.out _ (HF.out w1 hl).2.2.2.1
 rotate_left
 ·go_simp
 simp only[eA,eB,eC,Act.put,eD,eE,eF]
 refine pl [8,9,10,11] ?_
 repeat
  refine dR ?_ rfl (fun w1 hl=>?_) ?_
  rotate_left
  ·obtain⟨q1,q2,hx,_,_,l0⟩:=HF.out w1 hl;have l1:=hx.lt;go_simp;try with_reducible rfl
  simp only[eA,eB,eC,Act.put,eD,eE,eF]
 refine bV ?_
 refine jF 12 (.agg VB.cells) rfl (fun w1 hl=>?_) ?_
 ·obtain⟨_,_,hx,_⟩:=HF.out w1 hl
  exact Gf _ rfl cb 260 rfl VB fun i hi=>hx.cB i hi
 simp only[eA,eB,eC,Act.put,eD,eE,eF]
 refine pl [13,14] ?_
 repeat
  refine dR ?_ rfl (fun w1 hl=>?_) ?_
  rotate_left
  ·obtain⟨q1,q2,hx,_,_,l0⟩:=HF.out w1 hl;have l1:=hx.lt;go_simp;try with_reducible rfl
  simp only[eA,eB,eC,Act.put,eD,eE,eF]
 refine bV ?_
 refine yg 15 ?_ ?_ ?_ rfl (fun w1=>?_) (fun w1 hl=>?_) ?_
 rotate_left 4
 ·exact HB.out _ (HF.out w1 hl).2.2.2.1
 rotate_left
 ·go_simp
 simp only[eA,eB,eC,Act.put,eD,eE,eF]
 refine pl [16,17] ?_
 repeat
  refine dR ?_ rfl (fun w1 hl=>?_) ?_
  rotate_left
  ·skip;go_simp;try with_reducible rfl
  simp only[eA,eB,eC,Act.put,eD,eE,eF]
 refine bV ?_
 refine aV (by kernel_rfl) (fun w1 hl=>?_) _
 have hE:=(HF.out w1 hl).2.2.2.2.1
 go_wp2
 go_ret2
 exact⟨rfl,hE⟩
end
section
open Go.RowKit
def adZ(w:World)(cb ub tb top:Nat)(A B:aA)(lv:Value)(n m:Nat)(rep:Nat→Nat)(k:Nat)(W:List (Nat×Nat))(g:Option Nat)(s t:Nat)(w':World):Prop :=
 (rep s=rep (n+t)∧jy w' cb ub tb top A B lv n m rep k W g) ∨
 (rep s≠rep (n+t)∧∃ a b k' g',((a=rep s∧b=rep (n+t))∨(b=rep s∧a=rep (n+t)))∧k'+1=k∧jy w' cb ub tb top A B lv n m (fun y=>if rep y=b then a else rep y) k' (W++[(s,t)]) g'∧(g'=g∨∃ x,g'=some x∧w.heap.size≤x))
section
variable {w w':World} {cb ub tb top:Nat} {A B:aA} {lv:Value} {n m:Nat} {rep BR:Nat→Nat} {k k':Nat} {W:List (Nat×Nat)} {g:Option Nat}
theorem jy.turn(h:jy w cb ub tb top A B lv n m rep k W g)(hO:bM (fun b=>b=tb∨b=ub) w w')(hu:∃ h H up,jX w' ub tb (n+m) h H up BR k'):jy w' cb ub tb top A B lv n m BR k' W g:=by
 obtain⟨a,c,h0,h1,h2⟩:=h.box
 have hl:=h.lt
 refine⟨⟨a,c,h0,hO.box h1 (fun e=>e.elim h.ne.2 h.ne.1),h2.same fun b hb=>hO.block b (h2.row b hb).2 ?_⟩,hu,⟨hl.1,hl.2.1,hl.2.2.1,Nat.le_trans hl.2.2.2 hO.size⟩,h.ne⟩
 have:=(h2.row b hb).1
 rintro(e | e) <;> omega
end
theorem G5(a:Option Addr)(n c:Nat):(Value.slice a n c).ownBlock=a.map (·.block):=by cases a <;> rfl
theorem bM.grown{w w':World}{row:Option Nat}(h:w.grownBy w' row):bM (fun b=>row=some b) w w':=⟨h.os,h.tape,h.output,h.size,fun b hb hn=>h.block b hb fun e=>hn e.symm⟩
theorem aix(cb ub tb top:Nat)(VA VB:aA)(lv:Value)(n m:Nat)(rep:Nat→Nat)(k:Nat)(W:List (Nat×Nat))(g:Option Nat)(w:World)(h:jy w cb ub tb top VA VB lv n m rep k W g)(hn:VA.ln=n)(la:Option Addr)(hla:VA.la=la)(hlc:VA.lc≤9223372036854775807)(s t:Nat)(hs:s<n)(ht:t<m)(hWl:W.length≤1048576) :
  Calls Tryz.prog 73 #[.pointer (some ⟨cb,0,none⟩),.int .i64 s,.int .i64 t] w fun e w'=>(∃ v,e=.returned v)∧bM (CS cb ub tb g) w w'∧adZ w cb ub tb top VA VB lv n m rep k W g s t w':=by
 obtain⟨a,c,rfl,hb,ho⟩:=h.box
 obtain⟨hh,H,up,hu⟩:=h.uni
 have hnm:=hu.big.1
 have HJ:=ah (fun(v:World) (hv:Below w.heap.size w v)=>ag9 s (n+t) (by omega) (by omega) (hu.later hv))
 have HF:Hid (∀ v,Later w.drew v→Box v cb (oK VA VB [lv,.pointer (some ⟨ub,0,none⟩),.slice a W.length c]) 128∧v.cell? ⟨cb,258,none⟩=some (.slice VA.la n VA.lc)∧v.cell? ⟨cb,521,none⟩=some (.pointer (some ⟨ub,0,none⟩))∧Below w.heap.size w v):=ah fun v hl=>by
  have h1:=hb.kept (dl hl)
  exact⟨h1,by rw[h1.cA 258 (by decide),VA.iZ,hn],h1.EH 1,dl hl⟩
 have HH:=ah h;have HO:=ah ho;have tu:=ah h.ne
 have hlt:=ah h.lt
 have hwr:IntKind.i64.wrap ((n:Int)+(t:Int))=((n+t:Nat):Int):=by rw[IntWalk.i64_in _ (by omega)];omega
 clear h hb ho hu
 go_enter Tryz.func73,Tryz.ntmps73
 go_wp2_with fail
 refine aO (R:=Later) 13 (by kernel_rfl) ?_
 refine pl [0,1,2,3,4,5,6,7,8,9,10,11,12] ?_
 repeat
  refine dR ?_ rfl (fun w1 hl=>?_) ?_
  rotate_left
  ·obtain⟨hx,q1,q2,_⟩:=HF.out w1 hl;have l0:=hx.lt;go_simp;try with_reducible rfl
  simp only[eA,eB,eC,Act.put,eD,eE,eF]
 refine bV ?_
 refine bg (t:=13) (i:=13) (by kernel_rfl) rfl (fun w1 hl K hK=>?_)
 obtain⟨hx,_,_,hB1⟩:=HF.out w1 hl
 go_simp
 refine(HJ.out w1 hB1).mono ?_
 rintro e w2 ⟨rfl,hO2,hJ⟩
 refine hK.out _ _ (fun h=>absurd rfl h) ?_
 clear hK K
 have hO:=(bM.below (S:=fun b=>b=tb∨b=ub) hB1).trans hO2
 have O4:=HH.out.later hB1
 have Wy:=ah O4;have HO2:=ah hO2;have HO:=ah hO
 clear hl HF hx hB1 hO2 hO O4
 refine aV (by kernel_rfl) (fun w1 hl=>?_) _
 rcases hJ with⟨he,up',hu⟩ | ⟨hne,x,y,up',h',H',k',hxy,hk,hu⟩
 ·have hz:(rep s != rep (n+t))=false:=by simp[he]
  have hE:=((Wy.out.turn HO2.out ⟨_,_,_,hu⟩)).later hl
  have hOE:=(bM.weak HO.out (T:=CS cb ub tb (a.map (·.block))) (fun b e=>e.elim (fun e=>.inr (.inr (.inl e))) (fun e=>.inr (.inl e)))).later hl
  have HE:=ah hE;have HOE:=ah hOE;have HQ:=ah he
  clear hu he hE hOE hl
  go_wp2
  go_end0
  exact⟨⟨_,rfl⟩,HOE.out,.inl ⟨HQ.out,HE.out⟩⟩
 ·have hz:(rep s != rep (n+t))=true:=by simp[hne]
  have hE:=((Wy.out.turn HO2.out ⟨_,_,_,hu⟩)).later hl
  have hOE:=(bM.weak HO.out (T:=CS cb ub tb (a.map (·.block))) (fun b e=>e.elim (fun e=>.inr (.inr (.inl e))) (fun e=>.inr (.inl e)))).later hl
  have HQ:=ah (And.intro hne (And.intro hxy hk))
  clear hu hne hxy hk hl
  obtain⟨a0,c0,ha0,hb,ho⟩:=hE.box
  obtain⟨z1,z2,z3,hU⟩:=hE.uni
  have p0:w1.cell? ⟨cb,522,none⟩=some (.slice a0 W.length c0):=hb.EH 2
  have l0:=hb.lt
  have hlt1:=hE.lt
  have hb2:=hb.alloc (.cells #[.int .i64 (s:Nat),.int .i64 (t:Nat)] 79)
  have ho2:=ho.kept (aj w1 (.cells #[.int .i64 (s:Nat),.int .i64 (t:Nat)] 79))
  have O5:=hU.later (aj w1 (.cells #[.int .i64 (s:Nat),.int .i64 (t:Nat)] 79))
  have hO2:=hOE.later (aj w1 (.cells #[.int .i64 (s:Nat),.int .i64 (t:Nat)] 79))
  have hsz:top≤(w1.alloc (.cells #[.int .i64 (s:Nat),.int .i64 (t:Nat)] 79)).heap.size:=by rw[World.size_alloc];omega
  have HA0:=ah ha0;have HOE:=ah hO2;have Iq:=ah O5
  clear hE hb ho hU hOE O5 hO2 ha0
  go_wp2_with (at_builtin;go_must (refine Nb rfl _ _ 74 rfl Wx uD rfl ho2 hsz ⟨w1.heap.size,0,none⟩ 1 (s,t) rfl (bW w1 [.int .i64 (s:Nat),.int .i64 (t:Nat)] _) (by omega) (by omega) ?_;intro a' c' w3 ho3 hg3 hf3;change World.grownBy _ _ (Value.slice a0 W.length c0).ownBlock at hg3;change _=(Value.slice a0 W.length c0).ownBlock∨_ at hf3;have hb3:Box w3 cb _ _:=(hg3.block cb hb2.lt fun e=>by { have:=(ho2.row cb e.symm).1;omega }).trans hb2;have p3:w3.cell? ⟨cb,522,none⟩=some (.slice a0 W.length c0):=hb3.EH 2;have f3:=hb3.free 522;have l3:=hb3.lt;have HB3:=ah hb3;have Ws:=ah (And.intro ho3 (And.intro hg3 hf3));clear hb3 ho3 hg3 hf3))
  go_end0
  obtain⟨ho3,hg3,hf3⟩:=Ws.out
  obtain⟨q1,q2,q3⟩:=HQ.out
  rw[G5] at hg3
  rw[G5,G5] at hf3
  have hO3:=bM.grown hg3
  have hg0:∀ b,a0.map (·.block)=some b→top≤b:=fun b e=>(ho2.row b (by rw[G5];exact e)).1
  have hU3:=Iq.out.only hO3 (fun e=>by have:=hg0 _ e;omega) (fun e=>by have:=hg0 _ e;omega)
  have hgs:=hO3.size
  simp only[World.size_alloc] at hgs
  have hws:=HOE.out.size
  simp only[World.size_alloc] at hws
  refine⟨⟨_,rfl⟩,((HOE.out.trans (bM.weak hO3 fun b e=>.inr (.inr (.inr (HA0.out.trans e)))))).set cb (.inl rfl) _ _,.inr ⟨q1,x,y,k',a'.map (·.block),q2,q3,⟨⟨a',c',rfl,?_,?_⟩,⟨_,_,_,hU3.only (bM.set (S:=(·=cb)) (bM.refl _ _) cb rfl _ _) (fun e=>tu.out.1 e.symm) (fun e=>tu.out.2 e.symm)⟩,⟨hlt1.1,hlt1.2.1,hlt1.2.2.1,by rw[World.size_setCell];omega⟩,tu.out⟩,?_⟩⟩
  ·rw[List.length_append,List.length_singleton]
   exact HB3.out.SX 2 _
  ·rw[List.length_append,List.length_singleton]
   exact ho3.same fun b hb=>heap_setCell_other _ _ _ _ (fun e=>by have:=(ho3.row b hb).1;have e2:b=cb:=e;omega)
  ·rcases hf3 with e | e
   ·exact .inl (e.trans HA0.out.symm)
   ·exact .inr ⟨_,e,by rw[World.size_alloc];omega⟩
end
end Go.Proofs.YtengfapcaaacaaaGreatDoor
