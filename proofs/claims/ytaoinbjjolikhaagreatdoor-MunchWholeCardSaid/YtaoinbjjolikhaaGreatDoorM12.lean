/- The texts of B12, in few letters (mini.py). -/
import Derived.Test.YtaoinbjjolikhaaGreatDoorM11
set_option linter.unusedVariables false
set_option linter.unusedSimpArgs false
set_option maxHeartbeats 1600000
namespace Go.Proofs.YtaoinbjjolikhaaGreatDoor
section
open Go.RowKit
def jd(l:List UInt8)(fr i:Nat):Sum (Nat×Nat) (Nat×Nat) :=
 if l.length≤i then .inl (13,fr) else
 if bC l i 92=true then mO l i else
 if xH (l.getD i 0).toNat=true then .inl (13,i) else .inr ((l.getD i 0).toNat,i+1)
theorem FX.over{b:Nat}{g:Nat×Nat}{n cap fr p:Nat}{l:List UInt8}{w w1:World}{r:Sum (Nat×Nat) (Nat×Nat)}{e:Ending}{w':World}(ho:Only b w w1)(h:FX b g n cap fr p l w1 r e w'):FX b g n cap fr p l w r e w':=by
 cases r with
 | inl q=>obtain⟨c,j,h1,h2,h3,h4,h5⟩:=h;exact⟨c,j,h1,h2,h3,h4,ho.trans h5⟩
 | inr q=>obtain⟨h1,h2,h3,h4,h5⟩:=h;exact⟨h1,h2,h3,h4,ho.trans h5⟩
theorem FX.val{b:Nat}{g:Nat×Nat}{n cap fr p:Nat}{l:List UInt8}{w:World}{r:Sum (Nat×Nat) (Nat×Nat)}{e:Ending}{w':World}(h:FX b g n cap fr p l w r e w'):∃ c:Nat,e=.returned (.int .u8 c):=by
 cases r with
 | inl q=>obtain⟨c,j,h1,h2,h3,h4,h5⟩:=h;exact⟨c,h3⟩
 | inr q=>obtain⟨h1,h2,h3,h4,h5⟩:=h;exact⟨_,h3⟩
theorem Vl(b:Nat)(g:Nat×Nat)(n cap i fr p:Nat)(l:List UInt8)(w:World)(h:fD w b g n cap i fr 0 p l)(hi:i≤n) :
  Calls Tryz.prog 238 #[.pointer (some ⟨b,0,none⟩)] w (FX b g n cap fr p l w (jd l fr i)):=by
 obtain⟨hlen,hcap,hcap',hcell⟩:=h.sl.cellsA
 have hnb:n≤9223372036854775807:=by omega
 obtain⟨x0,x1,x2,x3,x4⟩:=h.cells
 have f1:=h.box.free 1
 unfold jd
 rw[←hlen]
 have hbw:=Nat.le_of_lt h.box.lt
 by_cases h0:n≤i
 ·rw[if_pos h0]
  have e0:(((n - i:Nat):Int)==0)=true:=by simp;omega
  clear hcell hcap
  go_enter Tryz.func238,Tryz.ntmps238
  go_wp2_with (first | (go_at_call 234;go_must (refine(fO _ _ _ _ _ _ _ _ _ _ h (by omega)).mono ?_;rintro e w3 ⟨rfl,hB3⟩;have gQ:=h.kept hB3;have hO3:=Only.below hB3 hbw;obtain⟨y0,y1,y2,y3,y4⟩:=gQ.cells)) | (go_at_call 235;go_must (refine(iJ _ _ _ _ _ _ _ _ _ 13 fr _ gQ).mono ?_;rintro e w4 ⟨rfl,pR,hO4⟩)))
  go_ret
  exact⟨0,i,by omega,by omega,rfl,pR,hO3.trans hO4⟩
 ·rw[if_neg h0]
  have e0:(((n - i:Nat):Int)==0)=false:=by simp;omega
  have hin:i<n:=by omega
  have Lu:∀ w1,fD w1 b g n cap i fr 0 p l→Calls Tryz.prog 224 #[.pointer (some ⟨b,0,none⟩),.int .u8 92] w1 (aX w1 (.bool (bC l i 92))):=fun w1 h1=>Ep b g n cap i fr 0 p l 92 w1 h1
  have hes:=fun w1 h1=>EX b g n cap i fr p l w1 h1 hin
  cases hh:bC l i 92 with
  | true =>
   rw[hh] at Lu
   rw[if_pos rfl]
   have HH:=ah Lu
   have HE:=ah hes
   generalize mO l i=rr at *
   clear Lu hes hcell hcap hh hin h0
   go_enter Tryz.func238,Tryz.ntmps238
   go_wp2_with (first | (go_at_call 234;go_must (refine(fO _ _ _ _ _ _ _ _ _ _ h (by omega)).mono ?_;rintro e w3 ⟨rfl,hB3⟩;have gQ:=h.kept hB3;have hO3:=Only.below hB3 hbw)) | (go_at_call 224;go_must (refine(HH.out _ gQ).mono ?_;rintro e w4 ⟨rfl,hB4⟩;have pR:=gQ.kept hB4;have hO4:=hO3.trans (Only.below hB4 (Nat.le_of_lt gQ.box.lt)))) | (go_at_call 225;go_must (refine(HE.out _ pR).mono ?_;intro e w5 h5;have h6:=FX.over hO4 h5;clear h5;obtain⟨cc,rfl⟩:=h6.val)))
   go_ret
   exact h6
  | false =>
   rw[hh] at Lu
   rw[if_neg (by simp)]
   have hk:i<l.length:=by omega
   have hgd:l.getD i 0=l[i]:=by simp[List.getD_eq_getElem?_getD,hk]
   rw[hgd]
   have hc0:=fun(v:World) (hr:fD v b g n cap i fr 0 p l)=>by have:=hr.sl.cellsA.2.2.2 i hk v (Below.refl _ _);(try dsimp only at this);exact this
   have hc1:=fun(v:World) (hr:fD v b g n cap (i+1) fr 0 p l)=>by have:=hr.sl.cellsA.2.2.2 i hk v (Below.refl _ _);(try dsimp only at this);exact this
   have hsp:=fun w=>Qu l[i].toNat w l[i].toNat_lt
   generalize l[i]=c at *
   have hc256:=c.toNat_lt
   have HC:=ah hc0
   have LH:=ah hc1
   have HH:=ah Lu
   have hS:∀ (j:Nat) (w3:World),fD w3 b g n cap j fr 0 p l→Only b w w3→Hid (∀ v,Later w3.drew v→fD v b g n cap j fr 0 p l∧Only b w v):=fun j w3 gQ hO3=>ah fun v hl=>⟨(gQ.kept (Below.refl _ _).drew).kept hl,hO3.trans (Only.below ((Below.refl w3.heap.size w3).drew.trans (Below.mono hl (Nat.le_refl _))) (Nat.le_of_lt gQ.box.lt))⟩
   have HS:=ah hS
   have hi0:(0:Int)≤(i:Int):=by omega
   have hin':(i:Int)<(n:Int):=by omega
   have hw1:IntKind.i64.wrap ((i:Int)+1)=((i+1:Nat):Int):=by rw[IntWalk.i64_in _ (by omega)];omega
   have hw2:IntKind.i64.wrap ((i:Int)+1 - 1)=(i:Int):=by rw[IntWalk.i64_in _ (by omega)];omega
   have hw3:IntKind.i64.wrap (i:Int)=(i:Int):=IntWalk.i64_in _ (by omega)
   clear Lu hes hcell hcap hh h0 hc0 hc1 hS hgd hk hlen
   cases hsc:xH c.toNat with
   | true =>
    rw[hsc] at hsp
    have HP:=ah hsp
    clear hsp hsc
    rw[if_pos rfl]
    go_enter Tryz.func238,Tryz.ntmps238
    go_wp2_with (first | (go_at_call 234;go_must (refine(fO _ _ _ _ _ _ _ _ _ _ h (by omega)).mono ?_;rintro e w3 ⟨rfl,hB3⟩;have gQ:=h.kept hB3;have hO3:=Only.below hB3 hbw)) | (go_at_call 224;go_must (refine(HH.out _ gQ).mono ?_;rintro e w4 ⟨rfl,hB4⟩;have pR:=gQ.kept hB4;have hO4:=hO3.trans (Only.below hB4 (Nat.le_of_lt gQ.box.lt)))))
    have HF:=HS.out i w4 pR hO4
    refine aA (R:=Later) 14 (by kernel_rfl) ?_
    refine pl [0,1,2,3,4,5,6,7,8,9,10,11] ?_
    repeat
     refine dB ?_ rfl (fun w1 hl=>?_) ?_
     rotate_left
     ·obtain⟨x0,x1,x2,x3,x4⟩:=(HF.out w1 hl).1.cells;have c0:=HC.out w1 (HF.out w1 hl).1;go_simp;try with_reducible rfl
     simp only[eA,eB,eC,Act.put,eD,eE,eF]
    refine bP ?_
    refine zn 12 ?_ ?_ ?_ rfl (fun w1=>?_) (fun w1 hl=>?_) ?_
    rotate_left 4
    ·exact HP.out w1
    rotate_left
    ·go_simp
    simp only[eA,eB,eC,Act.put,eD,eE,eF]
    refine jB 13 ?_ rfl (fun w1 hl=>?_) ?_
    rotate_left
    ·skip;go_simp;try with_reducible rfl
    simp only[eA,eB,eC,Act.put,eD,eE,eF]
    refine aI (by kernel_rfl) (fun w1 hl=>?_) _
    obtain⟨gW,jS⟩:=HF.out w1 hl
    obtain⟨y0,y1,y2,y3,y4⟩:=gW.cells
    clear hl HF
    go_wp2_with (go_at_call 235;go_must (refine(iJ _ _ _ _ _ _ _ _ _ 13 i _ gW).mono ?_;rintro e w6 ⟨rfl,kL,lM⟩))
    go_ret
    exact⟨0,i,by omega,by omega,rfl,kL,jS.trans lM⟩
   | false =>
    rw[hsc] at hsp
    have HP:=ah hsp
    clear hsp hsc
    rw[if_neg (by simp)]
    go_enter Tryz.func238,Tryz.ntmps238
    go_wp2_with (first | (go_at_call 234;go_must (refine(fO _ _ _ _ _ _ _ _ _ _ h (by omega)).mono ?_;rintro e w3 ⟨rfl,hB3⟩;have gQ:=h.kept hB3;have hO3:=Only.below hB3 hbw)) | (go_at_call 224;go_must (refine(HH.out _ gQ).mono ?_;rintro e w4 ⟨rfl,hB4⟩;have pR:=gQ.kept hB4;have hO4:=hO3.trans (Only.below hB4 (Nat.le_of_lt gQ.box.lt)))))
    have HF:=HS.out i w4 pR hO4
    refine aA (R:=Later) 14 (by kernel_rfl) ?_
    refine pl [0,1,2,3,4,5,6,7,8,9,10,11] ?_
    repeat
     refine dB ?_ rfl (fun w1 hl=>?_) ?_
     rotate_left
     ·obtain⟨x0,x1,x2,x3,x4⟩:=(HF.out w1 hl).1.cells;have c0:=HC.out w1 (HF.out w1 hl).1;go_simp;try with_reducible rfl
     simp only[eA,eB,eC,Act.put,eD,eE,eF]
    refine bP ?_
    refine zn 12 ?_ ?_ ?_ rfl (fun w1=>?_) (fun w1 hl=>?_) ?_
    rotate_left 4
    ·exact HP.out w1
    rotate_left
    ·go_simp
    simp only[eA,eB,eC,Act.put,eD,eE,eF]
    refine jB 13 ?_ rfl (fun w1 hl=>?_) ?_
    rotate_left
    ·skip;go_simp;try with_reducible rfl
    simp only[eA,eB,eC,Act.put,eD,eE,eF]
    refine aI (by kernel_rfl) (fun w1 hl=>?_) _
    obtain⟨gW,jS⟩:=HF.out w1 hl
    obtain⟨y0,y1,y2,y3,y4⟩:=gW.cells
    have f5:=gW.box.free 1
    have kL:=gW.set (i+1)
    have lM:Only b w (w1.setCell ⟨b,1,none⟩ (.int .i64 ((i+1:Nat):Int))):=jS.trans (Only.set _ _ _)
    clear hl HF
    go_wp2_with fail
    have HF6:=HS.out (i+1) _ kL lM
    refine aA (R:=Later) 14 (by kernel_rfl) ?_
    refine pl [0,1,2,3,4,5,6,7,8,9,10,11,12,13] ?_
    repeat
     refine dB ?_ rfl (fun w1 hl=>?_) ?_
     rotate_left
     ·obtain⟨z0,z1,z2,z3,z4⟩:=(HF6.out _ hl).1.cells;have c0:=LH.out _ (HF6.out _ hl).1;go_simp;try with_reducible rfl
     simp only[eA,eB,eC,Act.put,eD,eE,eF]
    refine bP ?_
    refine aI (by kernel_rfl) (fun w1 hl=>?_) _
    obtain⟨ug,sZ⟩:=HF6.out _ hl
    go_wp2
    go_ret
    exact⟨hc256,by omega,rfl,ug,sZ⟩
end
section
open Go.RowKit
def iU(l:List UInt8)(fr i:Nat):Sum (Nat×Nat) ((Nat×Nat)×Nat) :=
 match jd l fr i with
 | .inl q=>.inl q
 | .inr (lo,j) =>
  if bC l j 45=true then
   (match jd l fr (j+1) with
    | .inl q=>.inl q
    | .inr (hi,k)=>if hi<lo then .inl (15,i) else .inr ((lo,hi),k))
  else .inr ((lo,lo),j)
def iw(lo hi:Nat):au:=ou fun b=>decide (lo≤b)&&decide (b≤hi)
def FZ(b:Nat)(g:Nat×Nat)(n cap fr p:Nat)(l:List UInt8)(w:World)(r:Sum (Nat×Nat) ((Nat×Nat)×Nat))(e:Ending)(w':World):Prop :=
 match r with
 | .inr (q,j)=>j≤n∧qK b g n cap fr l w (iP (iw q.1 q.2)) j 0 p e w'
 | .inl (kd,ps)=>kd≠0∧∃ (s:au) (j:Nat),j≤n∧qK b g n cap fr l w (iP s) j kd ps e w'
theorem FZ.err{b:Nat}{g:Nat×Nat}{n cap fr p kd ps j:Nat}{l:List UInt8}{w w':World}{s:au}{e:Ending}(h0:kd≠0)(hj:j≤n)(h:qK b g n cap fr l w (iP s) j kd ps e w'):FZ b g n cap fr p l w (.inl (kd,ps)) e w':=⟨h0,s,j,hj,h⟩
theorem FZ.ok{b:Nat}{g:Nat×Nat}{n cap fr p lo hi j:Nat}{l:List UInt8}{w w':World}{e:Ending}(hj:j≤n)(h:qK b g n cap fr l w (iP (iw lo hi)) j 0 p e w'):FZ b g n cap fr p l w (.inr ((lo,hi),j)) e w':=⟨hj,h⟩
theorem Sr{l:List UInt8}{fr i:Nat}{q:Nat×Nat}(h:jd l fr i=.inl q):iU l fr i=.inl q:=by unfold iU;rw[h]
theorem Po{l:List UInt8}{fr i lo j:Nat}(h:jd l fr i=.inr (lo,j))(h2:bC l j 45=false):iU l fr i=.inr ((lo,lo),j):=by unfold iU;rw[h];dsimp only;rw[h2];rfl
theorem Sv{l:List UInt8}{fr i lo j:Nat}{q:Nat×Nat}(h:jd l fr i=.inr (lo,j))(h2:bC l j 45=true)(h3:jd l fr (j+1)=.inl q):iU l fr i=.inl q:=by unfold iU;rw[h];dsimp only;rw[h2,h3];rfl
theorem Sz{l:List UInt8}{fr i lo j hi k:Nat}(h:jd l fr i=.inr (lo,j))(h2:bC l j 45=true)(h3:jd l fr (j+1)=.inr (hi,k))(h4:hi<lo):iU l fr i=.inl (15,i):=by unfold iU;rw[h];dsimp only;rw[h2,h3];simp[h4]
theorem Pq{l:List UInt8}{fr i lo j hi k:Nat}(h:jd l fr i=.inr (lo,j))(h2:bC l j 45=true)(h3:jd l fr (j+1)=.inr (hi,k))(h4:¬ hi<lo):iU l fr i=.inr ((lo,hi),k):=by unfold iU;rw[h];dsimp only;rw[h2,h3];simp[h4]
theorem af0{l:List UInt8}{i c ps:Nat}(h:mO l i=.inl (c,ps)):c≠0:=by
 unfold mO at h
 repeat' split at h
 all_goals first | (cases h;decide) | cases h
theorem SA{l:List UInt8}{fr i c ps:Nat}(h:jd l fr i=.inl (c,ps)):c≠0:=by
 unfold jd at h
 repeat' split at h
 all_goals first | exact af0 h | (cases h;decide) | cases h
theorem iT{l:List UInt8}{i:Nat}{c:UInt8}(h:bC l i c=true):i<l.length:=by
 unfold bC at h;simp only[Bool.and_eq_true,decide_eq_true_eq] at h;exact h.1
theorem Only.late{b g i:Nat}{w w':World}(h:Only b w w')(hb:b≤w.heap.size)(hg:w.heap.size≤g)(v:Value):Only b w (w'.setCell ⟨g,i,none⟩ v) :=
 ⟨h.1.setCell (p:=⟨g,i,none⟩) (Nat.le_trans hb hg) v,by simpa [World.setCell] using h.2.size,fun b' hb' c E fr e=>by
  have hlt:b'<w.heap.size:=(Array.getElem?_eq_some_iff.1 e).1
  exact(Below.heap_setCell w' ⟨g,i,none⟩ v b' (fun e2=>by have:b'=g:=e2;omega)).trans (h.2.same b' hb' c E fr e)⟩
theorem F5{b:Nat}{g:Nat×Nat}{n cap fr p i j k p':Nat}{l:List UInt8}{w w':World}(h:fD w b g n cap i fr 0 p l)(hR:fD w' b g n cap j fr k p' l)(hO:Only b w w')(v0 v1 v2 v3:Value) :
  fD ((((w'.setCell ⟨w.heap.size,0,none⟩ v0).setCell ⟨w.heap.size,1,none⟩ v1).setCell ⟨w.heap.size,2,none⟩ v2).setCell ⟨w.heap.size,3,none⟩ v3) b g n cap j fr k p' l∧Only b w ((((w'.setCell ⟨w.heap.size,0,none⟩ v0).setCell ⟨w.heap.size,1,none⟩ v1).setCell ⟨w.heap.size,2,none⟩ v2).setCell ⟨w.heap.size,3,none⟩ v3):=by
 have hb:=Nat.le_of_lt h.box.lt
 have hne:b≠w.heap.size:=Nat.ne_of_lt h.box.lt
 have ho:=(((hO.late hb (Nat.le_refl _) (i:=0) v0).late hb (Nat.le_refl _) (i:=1) v1).late hb (Nat.le_refl _) (i:=2) v2).late hb (Nat.le_refl _) (i:=3) v3
 exact⟨⟨hR.box.Dn hne _ _ _ _,ho.slice h.sl h.ne,h.ne⟩,ho⟩
theorem Vm(b:Nat)(g:Nat×Nat)(n cap i fr p:Nat)(l:List UInt8)(w:World)(h:fD w b g n cap i fr 0 p l)(hi:i≤n) :
  Calls Tryz.prog 227 #[.pointer (some ⟨b,0,none⟩)] w (FZ b g n cap fr p l w (iU l fr i)):=by
 have hlen:n=l.length:=h.sl.cellsA.1
 have hbw:=Nat.le_of_lt h.box.lt
 have hne:w.heap.size≠b:=Nat.ne_of_gt h.box.lt
 have hch:=fun(j:Nat) (hj:j≤n) (w1:World) (h1:fD w1 b g n cap j fr 0 p l)=>Vl b g n cap j fr p l w1 h1 hj
 have hR1:fD (w.alloc (.cells #[.int .u64 0,.int .u64 0,.int .u64 0,.int .u64 0] 99)) b g n cap i fr 0 p l:=h.kept (aj w _)
 have tZ:Only b w (w.alloc (.cells #[.int .u64 0,.int .u64 0,.int .u64 0,.int .u64 0] 99)):=Only.below (aj w _) hbw
 have hX1:=Box.new' (w:=w) rfl #[.int .u64 0,.int .u64 0,.int .u64 0,.int .u64 0] 99
 have hw3:IntKind.i64.wrap (i:Int)=(i:Int):=IntWalk.i64_in _ (by have:=h.sl.cellsA;omega)
 obtain⟨x0,x1,x2,x3,x4⟩:=hR1.cells
 have HI:=ah hi
 have hcn:=fun(c ps j:Nat)=>SA (l:=l) (fr:=fr) (i:=j) (c:=c) (ps:=ps)
 cases hc:jd l fr i with
 | inl q =>
  obtain⟨c,ps⟩:=q
  have hn0:=hcn c ps i hc
  have e1:((c:Int)==0)=false:=by simp;omega
  have HC:=hch i hi
  rw[hc] at HC
  have HC:=ah HC
  clear hch hcn
  rw[Sr hc]
  clear hc
  go_enter Tryz.func227,Tryz.ntmps227
  go_wp2_with (first | (go_at_call 238;go_must (refine(HC.out _ hR1).mono ?_;rintro e w2 ⟨cc,j,hcc,hj,rfl,hR2,hO2⟩;have hO3:=tZ.trans hO2;have hX2:=hO2.box hX1 hne;obtain⟨y0,y1,y2,y3,y4⟩:=hR2.cells)) | (go_at_call 239;go_must (refine(uN cc cc _ hcc hcc).mono ?_;rintro e w5 ⟨rfl,bF⟩;have gW:=hR2.kept bF;have dF:=hX2.kept bF;have jS:=hO3.trans (Only.below bF (Nat.le_of_lt hR2.box.lt));have p0:=dF.cell 0;have p1:=dF.cell 1;have p2:=dF.cell 2;have p3:=dF.cell 3;have q0:=dF.free 0;have q1:=dF.free 1;have q2:=dF.free 2;have q3:=dF.free 3)))
  obtain⟨hE1,hE2⟩:=F5 h gW jS (.int .u64 (word (iw cc cc) 0:Nat)) (.int .u64 (word (iw cc cc) 1:Nat)) (.int .u64 (word (iw cc cc) 2:Nat)) (.int .u64 (word (iw cc cc) 3:Nat))
  exact dn Tryz.results227 rfl (dF.eX rfl _ _ _ _) Tryz.underlying99 rfl (by kernel_rfl) rfl (.err hn0 hj ⟨rfl,hE1,hE2⟩)
 | inr q =>
  obtain⟨lo,j⟩:=q
  have HC:=hch i hi
  rw[hc] at HC
  have HC:=ah HC
  have htk:∀ w1,fD w1 b g n cap j fr 0 p l→Calls Tryz.prog 226 #[.pointer (some ⟨b,0,none⟩),.int .u8 45] w1 (qK b g n cap fr l w1 (.bool (bC l j 45)) (if bC l j 45 then j+1 else j) 0 p):=fun w1 h1=>zH b g n cap j fr 0 p l 45 w1 h1
  cases hh:bC l j 45 with
  | false =>
   rw[hh] at htk
   have HT:=ah htk
   clear hch hcn htk
   rw[Po hc hh]
   clear hc hh
   go_enter Tryz.func227,Tryz.ntmps227
   go_wp2_with (first | (go_at_call 238;go_must (refine(HC.out _ hR1).mono ?_;rintro e w2 ⟨hcc,hj,rfl,hR2,hO2⟩;have hO3:=tZ.trans hO2;have hX2:=hO2.box hX1 hne;obtain⟨y0,y1,y2,y3,y4⟩:=hR2.cells)) | (go_at_call 226;go_must (refine(HT.out _ hR2).mono ?_;rintro e w4 ⟨rfl,pR,hO4⟩;have jS:=hO3.trans hO4;have gX:=hO4.box hX2 hne)) | (go_at_call 239;go_must (refine(uN lo lo _ hcc hcc).mono ?_;rintro e w5 ⟨rfl,bF⟩;have gW:=pR.kept bF;have dF:=gX.kept bF;have lM:=jS.trans (Only.below bF (Nat.le_of_lt pR.box.lt));have p0:=dF.cell 0;have p1:=dF.cell 1;have p2:=dF.cell 2;have p3:=dF.cell 3;have q0:=dF.free 0;have q1:=dF.free 1;have q2:=dF.free 2;have q3:=dF.free 3)))
   obtain⟨hE1,hE2⟩:=F5 h gW lM (.int .u64 (word (iw lo lo) 0:Nat)) (.int .u64 (word (iw lo lo) 1:Nat)) (.int .u64 (word (iw lo lo) 2:Nat)) (.int .u64 (word (iw lo lo) 3:Nat))
   exact dn Tryz.results227 rfl (dF.eX rfl _ _ _ _) Tryz.underlying99 rfl (by kernel_rfl) rfl (.ok hj ⟨rfl,hE1,hE2⟩)
  | true =>
   rw[hh] at htk
   have hjl:=iT hh
   have HT:=ah htk
   have HC2:=hch (j+1) (by omega)
   cases hc2:jd l fr (j+1) with
   | inl q =>
    obtain⟨c,ps⟩:=q
    have hn0:=hcn c ps _ hc2
    rw[hc2] at HC2
    have HC2:=ah HC2
    have HF:=ah (fun w1 j2 h1=>iJ b g n cap j2 fr c ps l 15 i w1 h1)
    clear hch hcn htk
    rw[Sv hc hh hc2]
    clear hc hh hc2
    go_enter Tryz.func227,Tryz.ntmps227
    go_wp2_with (first | (go_at_call 238;refine(HC.out _ hR1).mono ?_;rintro e w2 ⟨hcc,hj,rfl,hR2,hO2⟩;have hO3:=tZ.trans hO2;have hX2:=hO2.box hX1 hne;obtain⟨y0,y1,y2,y3,y4⟩:=hR2.cells) | (go_at_call 226;go_must (refine(HT.out _ hR2).mono ?_;rintro e w4 ⟨rfl,pR,hO4⟩;have jS:=hO3.trans hO4;have gX:=hO4.box hX2 hne)) | (go_at_call 238;go_must (refine(HC2.out _ pR).mono ?_;rintro e w6 ⟨cc,j6,hc6,ZX,rfl,kL,lM⟩;have sZ:=jS.trans lM;have uh:=lM.box gX hne)) | (go_at_call 235;go_must (refine(HF.out _ _ kL).mono ?_;rw[if_neg hn0,if_neg hn0];rintro e w8 ⟨rfl,wR,Ak⟩;have zu:=sZ.trans Ak;have Pv:=Ak.box uh hne)) | (go_at_call 239;refine(uN lo cc _ hcc hc6).mono ?_;rintro e w5 ⟨rfl,bF⟩;have Wp:=wR.kept bF;have dF:=Pv.kept bF;have Wq:=zu.trans (Only.below bF (Nat.le_of_lt wR.box.lt));have p0:=dF.cell 0;have p1:=dF.cell 1;have p2:=dF.cell 2;have p3:=dF.cell 3;have q0:=dF.free 0;have q1:=dF.free 1;have q2:=dF.free 2;have q3:=dF.free 3) | (go_at_call 239;refine(uN lo cc _ hcc hc6).mono ?_;rintro e w5 ⟨rfl,bF⟩;have Wp:=kL.kept bF;have dF:=uh.kept bF;have Wq:=sZ.trans (Only.below bF (Nat.le_of_lt kL.box.lt));have p0:=dF.cell 0;have p1:=dF.cell 1;have p2:=dF.cell 2;have p3:=dF.cell 3;have q0:=dF.free 0;have q1:=dF.free 1;have q2:=dF.free 2;have q3:=dF.free 3))
    all_goals
     obtain⟨hE1,hE2⟩:=F5 h Wp Wq (.int .u64 (word (iw lo cc) 0:Nat)) (.int .u64 (word (iw lo cc) 1:Nat)) (.int .u64 (word (iw lo cc) 2:Nat)) (.int .u64 (word (iw lo cc) 3:Nat))
     exact dn Tryz.results227 rfl (dF.eX rfl _ _ _ _) Tryz.underlying99 rfl (by kernel_rfl) rfl (.err hn0 ZX ⟨rfl,hE1,hE2⟩)
   | inr q =>
    obtain⟨hi2,k⟩:=q
    rw[hc2] at HC2
    have HC2:=ah HC2
    have HF:=ah (fun w1 j2 h1=>iJ b g n cap j2 fr 0 p l 15 i w1 h1)
    clear hch hcn htk
    by_cases hlt:hi2<lo
    ·rw[Sz hc hh hc2 hlt]
     clear hc hh hc2
     go_enter Tryz.func227,Tryz.ntmps227
     go_wp2_with (first | (go_at_call 238;refine(HC.out _ hR1).mono ?_;rintro e w2 ⟨hcc,hj,rfl,hR2,hO2⟩;have hO3:=tZ.trans hO2;have hX2:=hO2.box hX1 hne;obtain⟨y0,y1,y2,y3,y4⟩:=hR2.cells) | (go_at_call 226;go_must (refine(HT.out _ hR2).mono ?_;rintro e w4 ⟨rfl,pR,hO4⟩;have jS:=hO3.trans hO4;have gX:=hO4.box hX2 hne)) | (go_at_call 238;go_must (refine(HC2.out _ pR).mono ?_;rintro e w6 ⟨hc6,ZX,rfl,kL,lM⟩;have sZ:=jS.trans lM;have uh:=lM.box gX hne)) | (go_at_call 235;go_must (refine(HF.out _ _ kL).mono ?_;simp only[if_true];rintro e w8 ⟨rfl,wR,Ak⟩;have zu:=sZ.trans Ak;have Pv:=Ak.box uh hne)) | (go_at_call 239;go_must (refine(uN lo hi2 _ hcc hc6).mono ?_;rintro e w5 ⟨rfl,bF⟩;have Wp:=wR.kept bF;have dF:=Pv.kept bF;have Wq:=zu.trans (Only.below bF (Nat.le_of_lt wR.box.lt));have p0:=dF.cell 0;have p1:=dF.cell 1;have p2:=dF.cell 2;have p3:=dF.cell 3;have q0:=dF.free 0;have q1:=dF.free 1;have q2:=dF.free 2;have q3:=dF.free 3)))
     obtain⟨hE1,hE2⟩:=F5 h Wp Wq (.int .u64 (word (iw lo hi2) 0:Nat)) (.int .u64 (word (iw lo hi2) 1:Nat)) (.int .u64 (word (iw lo hi2) 2:Nat)) (.int .u64 (word (iw lo hi2) 3:Nat))
     exact dn Tryz.results227 rfl (dF.eX rfl _ _ _ _) Tryz.underlying99 rfl (by kernel_rfl) rfl (.err (by decide) ZX ⟨rfl,hE1,hE2⟩)
    ·rw[Pq hc hh hc2 hlt]
     clear hc hh hc2
     go_enter Tryz.func227,Tryz.ntmps227
     go_wp2_with (first | (go_at_call 238;refine(HC.out _ hR1).mono ?_;rintro e w2 ⟨hcc,hj,rfl,hR2,hO2⟩;have hO3:=tZ.trans hO2;have hX2:=hO2.box hX1 hne;obtain⟨y0,y1,y2,y3,y4⟩:=hR2.cells) | (go_at_call 226;go_must (refine(HT.out _ hR2).mono ?_;rintro e w4 ⟨rfl,pR,hO4⟩;have jS:=hO3.trans hO4;have gX:=hO4.box hX2 hne)) | (go_at_call 238;go_must (refine(HC2.out _ pR).mono ?_;rintro e w6 ⟨hc6,ZX,rfl,kL,lM⟩;have sZ:=jS.trans lM;have uh:=lM.box gX hne)) | (go_at_call 239;go_must (refine(uN lo hi2 _ hcc hc6).mono ?_;rintro e w5 ⟨rfl,bF⟩;have Wp:=kL.kept bF;have dF:=uh.kept bF;have Wq:=sZ.trans (Only.below bF (Nat.le_of_lt kL.box.lt));have p0:=dF.cell 0;have p1:=dF.cell 1;have p2:=dF.cell 2;have p3:=dF.cell 3;have q0:=dF.free 0;have q1:=dF.free 1;have q2:=dF.free 2;have q3:=dF.free 3)))
     obtain⟨hE1,hE2⟩:=F5 h Wp Wq (.int .u64 (word (iw lo hi2) 0:Nat)) (.int .u64 (word (iw lo hi2) 1:Nat)) (.int .u64 (word (iw lo hi2) 2:Nat)) (.int .u64 (word (iw lo hi2) 3:Nat))
     exact dn Tryz.results227 rfl (dF.eX rfl _ _ _ _) Tryz.underlying99 rfl (by kernel_rfl) rfl (.ok ZX ⟨rfl,hE1,hE2⟩)
end
end Go.Proofs.YtaoinbjjolikhaaGreatDoor
