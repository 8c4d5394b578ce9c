/- The texts of N12, in few letters (mini.py). -/
import Derived.Test.YtengfapcaaacaaaGreatDoorM11
set_option linter.unusedVariables false
set_option linter.unusedSimpArgs false
set_option maxHeartbeats 1600000
namespace Go.Proofs.YtengfapcaaacaaaGreatDoor
section
open Go.RowKit
def iY(l:List UInt8)(fr i:Nat):Sum (Nat×Nat) (Nat×Nat) :=
 if l.length≤i then .inl (13,fr) else
 if aX l i 92=true then mM l i else
 if xB (l.getD i 0).toNat=true then .inl (13,i) else .inr ((l.getD i 0).toNat,i+1)
theorem FM.over{b:Nat}{g:Nat×Nat}{n cap fr p:Nat}{l:List UInt8}{w w1:World}{r:Sum (Nat×Nat) (Nat×Nat)}{e:Ending}{w':World}(ho:Only b w w1)(h:FM b g n cap fr p l w1 r e w'):FM b g n cap fr p l w r e w':=by
 cases r with
 | inl q=>obtain⟨c,j,h1,h2,h3,h4,h5⟩:=h;exact⟨c,j,h1,h2,h3,h4,ho.trans h5⟩
 | inr q=>obtain⟨h1,h2,h3,h4,h5⟩:=h;exact⟨h1,h2,h3,h4,ho.trans h5⟩
theorem FM.val{b:Nat}{g:Nat×Nat}{n cap fr p:Nat}{l:List UInt8}{w:World}{r:Sum (Nat×Nat) (Nat×Nat)}{e:Ending}{w':World}(h:FM b g n cap fr p l w r e w'):∃ c:Nat,e=.returned (.int .u8 c):=by
 cases r with
 | inl q=>obtain⟨c,j,h1,h2,h3,h4,h5⟩:=h;exact⟨c,h3⟩
 | inr q=>obtain⟨h1,h2,h3,h4,h5⟩:=h;exact⟨_,h3⟩
theorem UN(b:Nat)(g:Nat×Nat)(n cap i fr p:Nat)(l:List UInt8)(w:World)(h:eY w b g n cap i fr 0 p l)(hi:i≤n) :
  Calls Tryz.prog 294 #[.pointer (some ⟨b,0,none⟩)] w (FM b g n cap fr p l w (iY l fr i)):=by
 obtain⟨hlen,hcap,hcap',hcell⟩:=h.sl.cellsA
 have hnb:n≤9223372036854775807:=by omega
 obtain⟨x0,x1,x2,x3,x4⟩:=h.cells
 have f1:=h.box.free 1
 unfold iY
 rw[←hlen]
 have hbw:=Nat.le_of_lt h.box.lt
 by_cases h0:n≤i
 ·rw[if_pos h0]
  have e0:(((n - i:Nat):Int)==0)=true:=by simp;omega
  clear hcell hcap
  go_enter Tryz.func294,Tryz.ntmps294
  go_wp2_with (first | (go_at_call 290;go_must (refine(fG _ _ _ _ _ _ _ _ _ _ h (by omega)).mono ?_;rintro e w3 ⟨rfl,hB3⟩;have gy:=h.kept hB3;have hO3:=Only.below hB3 hbw;obtain⟨y0,y1,y2,y3,y4⟩:=gy.cells)) | (go_at_call 291;go_must (refine(iD _ _ _ _ _ _ _ _ _ 13 fr _ gy).mono ?_;rintro e w4 ⟨rfl,pG,hO4⟩)))
  go_ret
  exact⟨0,i,by omega,by omega,rfl,pG,hO3.trans hO4⟩
 ·rw[if_neg h0]
  have e0:(((n - i:Nat):Int)==0)=false:=by simp;omega
  have hin:i<n:=by omega
  have KO:∀ w1,eY w1 b g n cap i fr 0 p l→Calls Tryz.prog 274 #[.pointer (some ⟨b,0,none⟩),.int .u8 92] w1 (aY w1 (.bool (aX l i 92))):=fun w1 h1=>Eb b g n cap i fr 0 p l 92 w1 h1
  have hes:=fun w1 h1=>EM b g n cap i fr p l w1 h1 hin
  cases hh:aX l i 92 with
  | true =>
   rw[hh] at KO
   rw[if_pos rfl]
   have HH:=ah KO
   have HE:=ah hes
   generalize mM l i=rr at *
   clear KO hes hcell hcap hh hin h0
   go_enter Tryz.func294,Tryz.ntmps294
   go_wp2_with (first | (go_at_call 290;go_must (refine(fG _ _ _ _ _ _ _ _ _ _ h (by omega)).mono ?_;rintro e w3 ⟨rfl,hB3⟩;have gy:=h.kept hB3;have hO3:=Only.below hB3 hbw)) | (go_at_call 274;go_must (refine(HH.out _ gy).mono ?_;rintro e w4 ⟨rfl,hB4⟩;have pG:=gy.kept hB4;have hO4:=hO3.trans (Only.below hB4 (Nat.le_of_lt gy.box.lt)))) | (go_at_call 275;go_must (refine(HE.out _ pG).mono ?_;intro e w5 h5;have h6:=FM.over hO4 h5;clear h5;obtain⟨cc,rfl⟩:=h6.val)))
   go_ret
   exact h6
  | false =>
   rw[hh] at KO
   rw[if_neg (by simp)]
   have hk:i<l.length:=by omega
   have hgd:l.getD i 0=l[i]:=by simp[List.getD_eq_getElem?_getD,hk]
   rw[hgd]
   have hc0:=fun(v:World) (hr:eY v b g n cap i fr 0 p l)=>by have:=hr.sl.cellsA.2.2.2 i hk v (Below.refl _ _);(try dsimp only at this);exact this
   have hc1:=fun(v:World) (hr:eY v b g n cap (i+1) fr 0 p l)=>by have:=hr.sl.cellsA.2.2.2 i hk v (Below.refl _ _);(try dsimp only at this);exact this
   have hsp:=fun w=>PG l[i].toNat w l[i].toNat_lt
   generalize l[i]=c at *
   have hc256:=c.toNat_lt
   have HC:=ah hc0
   have KT:=ah hc1
   have HH:=ah KO
   have hS:∀ (j:Nat) (w3:World),eY w3 b g n cap j fr 0 p l→Only b w w3→Hid (∀ v,Later w3.drew v→eY v b g n cap j fr 0 p l∧Only b w v):=fun j w3 gy hO3=>ah fun v hl=>⟨(gy.kept (Below.refl _ _).drew).kept hl,hO3.trans (Only.below ((Below.refl w3.heap.size w3).drew.trans (Below.mono hl (Nat.le_refl _))) (Nat.le_of_lt gy.box.lt))⟩
   have HS:=ah hS
   have hi0:(0:Int)≤(i:Int):=by omega
   have hin':(i:Int)<(n:Int):=by omega
   have hw1:IntKind.i64.wrap ((i:Int)+1)=((i+1:Nat):Int):=by rw[IntWalk.i64_in _ (by omega)];omega
   have hw2:IntKind.i64.wrap ((i:Int)+1 - 1)=(i:Int):=by rw[IntWalk.i64_in _ (by omega)];omega
   have hw3:IntKind.i64.wrap (i:Int)=(i:Int):=IntWalk.i64_in _ (by omega)
   clear KO hes hcell hcap hh h0 hc0 hc1 hS hgd hk hlen
   cases hsc:xB c.toNat with
   | true =>
    rw[hsc] at hsp
    have HP:=ah hsp
    clear hsp hsc
    rw[if_pos rfl]
    go_enter Tryz.func294,Tryz.ntmps294
    go_wp2_with (first | (go_at_call 290;go_must (refine(fG _ _ _ _ _ _ _ _ _ _ h (by omega)).mono ?_;rintro e w3 ⟨rfl,hB3⟩;have gy:=h.kept hB3;have hO3:=Only.below hB3 hbw)) | (go_at_call 274;go_must (refine(HH.out _ gy).mono ?_;rintro e w4 ⟨rfl,hB4⟩;have pG:=gy.kept hB4;have hO4:=hO3.trans (Only.below hB4 (Nat.le_of_lt gy.box.lt)))))
    have HF:=HS.out i w4 pG hO4
    refine aA (R:=Later) 14 (by kernel_rfl) ?_
    refine pl [0,1,2,3,4,5,6,7,8,9,10,11] ?_
    repeat
     refine dI ?_ rfl (fun w1 hl=>?_) ?_
     rotate_left
     ·obtain⟨x0,x1,x2,x3,x4⟩:=(HF.out w1 hl).1.cells;have c0:=HC.out w1 (HF.out w1 hl).1;go_simp;try with_reducible rfl
     simp only[eA,eB,eC,Act.put,eD,eE,eF]
    refine bU ?_
    refine EI 12 ?_ ?_ ?_ rfl (fun w1=>?_) (fun w1 hl=>?_) ?_
    rotate_left 4
    ·exact HP.out w1
    rotate_left
    ·go_simp
    simp only[eA,eB,eC,Act.put,eD,eE,eF]
    refine jM 13 ?_ rfl (fun w1 hl=>?_) ?_
    rotate_left
    ·skip;go_simp;try with_reducible rfl
    simp only[eA,eB,eC,Act.put,eD,eE,eF]
    refine aH (by kernel_rfl) (fun w1 hl=>?_) _
    obtain⟨gI,jO⟩:=HF.out w1 hl
    obtain⟨y0,y1,y2,y3,y4⟩:=gI.cells
    clear hl HF
    go_wp2_with (go_at_call 291;go_must (refine(iD _ _ _ _ _ _ _ _ _ 13 i _ gI).mono ?_;rintro e w6 ⟨rfl,kG,lI⟩))
    go_ret
    exact⟨0,i,by omega,by omega,rfl,kG,jO.trans lI⟩
   | false =>
    rw[hsc] at hsp
    have HP:=ah hsp
    clear hsp hsc
    rw[if_neg (by simp)]
    go_enter Tryz.func294,Tryz.ntmps294
    go_wp2_with (first | (go_at_call 290;go_must (refine(fG _ _ _ _ _ _ _ _ _ _ h (by omega)).mono ?_;rintro e w3 ⟨rfl,hB3⟩;have gy:=h.kept hB3;have hO3:=Only.below hB3 hbw)) | (go_at_call 274;go_must (refine(HH.out _ gy).mono ?_;rintro e w4 ⟨rfl,hB4⟩;have pG:=gy.kept hB4;have hO4:=hO3.trans (Only.below hB4 (Nat.le_of_lt gy.box.lt)))))
    have HF:=HS.out i w4 pG hO4
    refine aA (R:=Later) 14 (by kernel_rfl) ?_
    refine pl [0,1,2,3,4,5,6,7,8,9,10,11] ?_
    repeat
     refine dI ?_ rfl (fun w1 hl=>?_) ?_
     rotate_left
     ·obtain⟨x0,x1,x2,x3,x4⟩:=(HF.out w1 hl).1.cells;have c0:=HC.out w1 (HF.out w1 hl).1;go_simp;try with_reducible rfl
     simp only[eA,eB,eC,Act.put,eD,eE,eF]
    refine bU ?_
    refine EI 12 ?_ ?_ ?_ rfl (fun w1=>?_) (fun w1 hl=>?_) ?_
    rotate_left 4
    ·exact HP.out w1
    rotate_left
    ·go_simp
    simp only[eA,eB,eC,Act.put,eD,eE,eF]
    refine jM 13 ?_ rfl (fun w1 hl=>?_) ?_
    rotate_left
    ·skip;go_simp;try with_reducible rfl
    simp only[eA,eB,eC,Act.put,eD,eE,eF]
    refine aH (by kernel_rfl) (fun w1 hl=>?_) _
    obtain⟨gI,jO⟩:=HF.out w1 hl
    obtain⟨y0,y1,y2,y3,y4⟩:=gI.cells
    have f5:=gI.box.free 1
    have kG:=gI.set (i+1)
    have lI:Only b w (w1.setCell ⟨b,1,none⟩ (.int .i64 ((i+1:Nat):Int))):=jO.trans (Only.set _ _ _)
    clear hl HF
    go_wp2_with fail
    have HF6:=HS.out (i+1) _ kG lI
    refine aA (R:=Later) 14 (by kernel_rfl) ?_
    refine pl [0,1,2,3,4,5,6,7,8,9,10,11,12,13] ?_
    repeat
     refine dI ?_ rfl (fun w1 hl=>?_) ?_
     rotate_left
     ·obtain⟨z0,z1,z2,z3,z4⟩:=(HF6.out _ hl).1.cells;have c0:=KT.out _ (HF6.out _ hl).1;go_simp;try with_reducible rfl
     simp only[eA,eB,eC,Act.put,eD,eE,eF]
    refine bU ?_
    refine aH (by kernel_rfl) (fun w1 hl=>?_) _
    obtain⟨tX,sQ⟩:=HF6.out _ hl
    go_wp2
    go_ret
    exact⟨hc256,by omega,rfl,tX,sQ⟩
end
section
open Go.RowKit
def iP(l:List UInt8)(fr i:Nat):Sum (Nat×Nat) ((Nat×Nat)×Nat) :=
 match iY l fr i with
 | .inl q=>.inl q
 | .inr (lo,j) =>
  if aX l j 45=true then
   (match iY l fr (j+1) with
    | .inl q=>.inl q
    | .inr (hi,k)=>if hi<lo then .inl (15,i) else .inr ((lo,hi),k))
  else .inr ((lo,lo),j)
def gW(lo hi:Nat):au:=nX fun b=>decide (lo≤b)&&decide (b≤hi)
def FP(b:Nat)(g:Nat×Nat)(n cap fr p:Nat)(l:List UInt8)(w:World)(r:Sum (Nat×Nat) ((Nat×Nat)×Nat))(e:Ending)(w':World):Prop :=
 match r with
 | .inr (q,j)=>j≤n∧qF b g n cap fr l w (iK (gW q.1 q.2)) j 0 p e w'
 | .inl (kd,ps)=>kd≠0∧∃ (s:au) (j:Nat),j≤n∧qF b g n cap fr l w (iK s) j kd ps e w'
theorem FP.err{b:Nat}{g:Nat×Nat}{n cap fr p kd ps j:Nat}{l:List UInt8}{w w':World}{s:au}{e:Ending}(h0:kd≠0)(hj:j≤n)(h:qF b g n cap fr l w (iK s) j kd ps e w'):FP b g n cap fr p l w (.inl (kd,ps)) e w':=⟨h0,s,j,hj,h⟩
theorem FP.ok{b:Nat}{g:Nat×Nat}{n cap fr p lo hi j:Nat}{l:List UInt8}{w w':World}{e:Ending}(hj:j≤n)(h:qF b g n cap fr l w (iK (gW lo hi)) j 0 p e w'):FP b g n cap fr p l w (.inr ((lo,hi),j)) e w':=⟨hj,h⟩
theorem Rt{l:List UInt8}{fr i:Nat}{q:Nat×Nat}(h:iY l fr i=.inl q):iP l fr i=.inl q:=by unfold iP;rw[h]
theorem OB{l:List UInt8}{fr i lo j:Nat}(h:iY l fr i=.inr (lo,j))(h2:aX l j 45=false):iP l fr i=.inr ((lo,lo),j):=by unfold iP;rw[h];dsimp only;rw[h2];rfl
theorem Ru{l:List UInt8}{fr i lo j:Nat}{q:Nat×Nat}(h:iY l fr i=.inr (lo,j))(h2:aX l j 45=true)(h3:iY l fr (j+1)=.inl q):iP l fr i=.inl q:=by unfold iP;rw[h];dsimp only;rw[h2,h3];rfl
theorem Rw{l:List UInt8}{fr i lo j hi k:Nat}(h:iY l fr i=.inr (lo,j))(h2:aX l j 45=true)(h3:iY l fr (j+1)=.inr (hi,k))(h4:hi<lo):iP l fr i=.inl (15,i):=by unfold iP;rw[h];dsimp only;rw[h2,h3];simp[h4]
theorem OC{l:List UInt8}{fr i lo j hi k:Nat}(h:iY l fr i=.inr (lo,j))(h2:aX l j 45=true)(h3:iY l fr (j+1)=.inr (hi,k))(h4:¬ hi<lo):iP l fr i=.inr ((lo,hi),k):=by unfold iP;rw[h];dsimp only;rw[h2,h3];simp[h4]
theorem afK{l:List UInt8}{i c ps:Nat}(h:mM l i=.inl (c,ps)):c≠0:=by
 unfold mM at h
 repeat' split at h
 all_goals first | (cases h;decide) | cases h
theorem Rx{l:List UInt8}{fr i c ps:Nat}(h:iY l fr i=.inl (c,ps)):c≠0:=by
 unfold iY at h
 repeat' split at h
 all_goals first | exact afK h | (cases h;decide) | cases h
theorem iO{l:List UInt8}{i:Nat}{c:UInt8}(h:aX l i c=true):i<l.length:=by
 unfold aX at h;simp only[Bool.and_eq_true,decide_eq_true_eq] at h;exact h.1
theorem Only.late{b g i:Nat}{w w':World}(h:Only b w w')(hb:b≤w.heap.size)(hg:w.heap.size≤g)(v:Value):Only b w (w'.setCell ⟨g,i,none⟩ v) :=
 ⟨h.1.setCell (p:=⟨g,i,none⟩) (Nat.le_trans hb hg) v,by simpa [World.setCell] using h.2.size,fun b' hb' c E fr e=>by
  have hlt:b'<w.heap.size:=(Array.getElem?_eq_some_iff.1 e).1
  exact(Below.heap_setCell w' ⟨g,i,none⟩ v b' (fun e2=>by have:b'=g:=e2;omega)).trans (h.2.same b' hb' c E fr e)⟩
theorem FQ{b:Nat}{g:Nat×Nat}{n cap fr p i j k p':Nat}{l:List UInt8}{w w':World}(h:eY w b g n cap i fr 0 p l)(hR:eY w' b g n cap j fr k p' l)(hO:Only b w w')(v0 v1 v2 v3:Value) :
  eY ((((w'.setCell ⟨w.heap.size,0,none⟩ v0).setCell ⟨w.heap.size,1,none⟩ v1).setCell ⟨w.heap.size,2,none⟩ v2).setCell ⟨w.heap.size,3,none⟩ v3) b g n cap j fr k p' l∧Only b w ((((w'.setCell ⟨w.heap.size,0,none⟩ v0).setCell ⟨w.heap.size,1,none⟩ v1).setCell ⟨w.heap.size,2,none⟩ v2).setCell ⟨w.heap.size,3,none⟩ v3):=by
 have hb:=Nat.le_of_lt h.box.lt
 have hne:b≠w.heap.size:=Nat.ne_of_lt h.box.lt
 have ho:=(((hO.late hb (Nat.le_refl _) (i:=0) v0).late hb (Nat.le_refl _) (i:=1) v1).late hb (Nat.le_refl _) (i:=2) v2).late hb (Nat.le_refl _) (i:=3) v3
 exact⟨⟨hR.box.C9 hne _ _ _ _,ho.slice h.sl h.ne,h.ne⟩,ho⟩
theorem UO(b:Nat)(g:Nat×Nat)(n cap i fr p:Nat)(l:List UInt8)(w:World)(h:eY w b g n cap i fr 0 p l)(hi:i≤n) :
  Calls Tryz.prog 277 #[.pointer (some ⟨b,0,none⟩)] w (FP b g n cap fr p l w (iP l fr i)):=by
 have hlen:n=l.length:=h.sl.cellsA.1
 have hbw:=Nat.le_of_lt h.box.lt
 have hne:w.heap.size≠b:=Nat.ne_of_gt h.box.lt
 have hch:=fun(j:Nat) (hj:j≤n) (w1:World) (h1:eY w1 b g n cap j fr 0 p l)=>UN b g n cap j fr p l w1 h1 hj
 have hR1:eY (w.alloc (.cells #[.int .u64 0,.int .u64 0,.int .u64 0,.int .u64 0] 113)) b g n cap i fr 0 p l:=h.kept (aj w _)
 have tV:Only b w (w.alloc (.cells #[.int .u64 0,.int .u64 0,.int .u64 0,.int .u64 0] 113)):=Only.below (aj w _) hbw
 have hX1:=Box.new' (w:=w) rfl #[.int .u64 0,.int .u64 0,.int .u64 0,.int .u64 0] 113
 have hw3:IntKind.i64.wrap (i:Int)=(i:Int):=IntWalk.i64_in _ (by have:=h.sl.cellsA;omega)
 obtain⟨x0,x1,x2,x3,x4⟩:=hR1.cells
 have HI:=ah hi
 have hcn:=fun(c ps j:Nat)=>Rx (l:=l) (fr:=fr) (i:=j) (c:=c) (ps:=ps)
 cases hc:iY l fr i with
 | inl q =>
  obtain⟨c,ps⟩:=q
  have hn0:=hcn c ps i hc
  have e1:((c:Int)==0)=false:=by simp;omega
  have HC:=hch i hi
  rw[hc] at HC
  have HC:=ah HC
  clear hch hcn
  rw[Rt hc]
  clear hc
  go_enter Tryz.func277,Tryz.ntmps277
  go_wp2_with (first | (go_at_call 294;go_must (refine(HC.out _ hR1).mono ?_;rintro e w2 ⟨cc,j,hcc,hj,rfl,hR2,hO2⟩;have hO3:=tV.trans hO2;have hX2:=hO2.box hX1 hne;obtain⟨y0,y1,y2,y3,y4⟩:=hR2.cells)) | (go_at_call 295;go_must (refine(uJ cc cc _ hcc hcc).mono ?_;rintro e w5 ⟨rfl,bF⟩;have gI:=hR2.kept bF;have dA:=hX2.kept bF;have jO:=hO3.trans (Only.below bF (Nat.le_of_lt hR2.box.lt));have p0:=dA.cell 0;have p1:=dA.cell 1;have p2:=dA.cell 2;have p3:=dA.cell 3;have q0:=dA.free 0;have q1:=dA.free 1;have q2:=dA.free 2;have q3:=dA.free 3)))
  obtain⟨hE1,hE2⟩:=FQ h gI jO (.int .u64 (word (gW cc cc) 0:Nat)) (.int .u64 (word (gW cc cc) 1:Nat)) (.int .u64 (word (gW cc cc) 2:Nat)) (.int .u64 (word (gW cc cc) 3:Nat))
  exact cZ Tryz.results277 rfl (dA.eG rfl _ _ _ _) Tryz.underlying113 rfl (by kernel_rfl) rfl (.err hn0 hj ⟨rfl,hE1,hE2⟩)
 | inr q =>
  obtain⟨lo,j⟩:=q
  have HC:=hch i hi
  rw[hc] at HC
  have HC:=ah HC
  have htk:∀ w1,eY w1 b g n cap j fr 0 p l→Calls Tryz.prog 276 #[.pointer (some ⟨b,0,none⟩),.int .u8 45] w1 (qF b g n cap fr l w1 (.bool (aX l j 45)) (if aX l j 45 then j+1 else j) 0 p):=fun w1 h1=>zy b g n cap j fr 0 p l 45 w1 h1
  cases hh:aX l j 45 with
  | false =>
   rw[hh] at htk
   have HT:=ah htk
   clear hch hcn htk
   rw[OB hc hh]
   clear hc hh
   go_enter Tryz.func277,Tryz.ntmps277
   go_wp2_with (first | (go_at_call 294;go_must (refine(HC.out _ hR1).mono ?_;rintro e w2 ⟨hcc,hj,rfl,hR2,hO2⟩;have hO3:=tV.trans hO2;have hX2:=hO2.box hX1 hne;obtain⟨y0,y1,y2,y3,y4⟩:=hR2.cells)) | (go_at_call 276;go_must (refine(HT.out _ hR2).mono ?_;rintro e w4 ⟨rfl,pG,hO4⟩;have jO:=hO3.trans hO4;have gJ:=hO4.box hX2 hne)) | (go_at_call 295;go_must (refine(uJ lo lo _ hcc hcc).mono ?_;rintro e w5 ⟨rfl,bF⟩;have gI:=pG.kept bF;have dA:=gJ.kept bF;have lI:=jO.trans (Only.below bF (Nat.le_of_lt pG.box.lt));have p0:=dA.cell 0;have p1:=dA.cell 1;have p2:=dA.cell 2;have p3:=dA.cell 3;have q0:=dA.free 0;have q1:=dA.free 1;have q2:=dA.free 2;have q3:=dA.free 3)))
   obtain⟨hE1,hE2⟩:=FQ h gI lI (.int .u64 (word (gW lo lo) 0:Nat)) (.int .u64 (word (gW lo lo) 1:Nat)) (.int .u64 (word (gW lo lo) 2:Nat)) (.int .u64 (word (gW lo lo) 3:Nat))
   exact cZ Tryz.results277 rfl (dA.eG rfl _ _ _ _) Tryz.underlying113 rfl (by kernel_rfl) rfl (.ok hj ⟨rfl,hE1,hE2⟩)
  | true =>
   rw[hh] at htk
   have hjl:=iO hh
   have HT:=ah htk
   have HC2:=hch (j+1) (by omega)
   cases hc2:iY l fr (j+1) with
   | inl q =>
    obtain⟨c,ps⟩:=q
    have hn0:=hcn c ps _ hc2
    rw[hc2] at HC2
    have HC2:=ah HC2
    have HF:=ah (fun w1 j2 h1=>iD b g n cap j2 fr c ps l 15 i w1 h1)
    clear hch hcn htk
    rw[Ru hc hh hc2]
    clear hc hh hc2
    go_enter Tryz.func277,Tryz.ntmps277
    go_wp2_with (first | (go_at_call 294;refine(HC.out _ hR1).mono ?_;rintro e w2 ⟨hcc,hj,rfl,hR2,hO2⟩;have hO3:=tV.trans hO2;have hX2:=hO2.box hX1 hne;obtain⟨y0,y1,y2,y3,y4⟩:=hR2.cells) | (go_at_call 276;go_must (refine(HT.out _ hR2).mono ?_;rintro e w4 ⟨rfl,pG,hO4⟩;have jO:=hO3.trans hO4;have gJ:=hO4.box hX2 hne)) | (go_at_call 294;go_must (refine(HC2.out _ pG).mono ?_;rintro e w6 ⟨cc,j6,hc6,Zv,rfl,kG,lI⟩;have sQ:=jO.trans lI;have tY:=lI.box gJ hne)) | (go_at_call 291;go_must (refine(HF.out _ _ kG).mono ?_;rw[if_neg hn0,if_neg hn0];rintro e w8 ⟨rfl,wL,Aa⟩;have zf:=sQ.trans Aa;have OD:=Aa.box tY hne)) | (go_at_call 295;refine(uJ lo cc _ hcc hc6).mono ?_;rintro e w5 ⟨rfl,bF⟩;have VE:=wL.kept bF;have dA:=OD.kept bF;have VF:=zf.trans (Only.below bF (Nat.le_of_lt wL.box.lt));have p0:=dA.cell 0;have p1:=dA.cell 1;have p2:=dA.cell 2;have p3:=dA.cell 3;have q0:=dA.free 0;have q1:=dA.free 1;have q2:=dA.free 2;have q3:=dA.free 3) | (go_at_call 295;refine(uJ lo cc _ hcc hc6).mono ?_;rintro e w5 ⟨rfl,bF⟩;have VE:=kG.kept bF;have dA:=tY.kept bF;have VF:=sQ.trans (Only.below bF (Nat.le_of_lt kG.box.lt));have p0:=dA.cell 0;have p1:=dA.cell 1;have p2:=dA.cell 2;have p3:=dA.cell 3;have q0:=dA.free 0;have q1:=dA.free 1;have q2:=dA.free 2;have q3:=dA.free 3))
    all_goals
     obtain⟨hE1,hE2⟩:=FQ h VE VF (.int .u64 (word (gW lo cc) 0:Nat)) (.int .u64 (word (gW lo cc) 1:Nat)) (.int .u64 (word (gW lo cc) 2:Nat)) (.int .u64 (word (gW lo cc) 3:Nat))
     exact cZ Tryz.results277 rfl (dA.eG rfl _ _ _ _) Tryz.underlying113 rfl (by kernel_rfl) rfl (.err hn0 Zv ⟨rfl,hE1,hE2⟩)
   | inr q =>
    obtain⟨hi2,k⟩:=q
    rw[hc2] at HC2
    have HC2:=ah HC2
    have HF:=ah (fun w1 j2 h1=>iD b g n cap j2 fr 0 p l 15 i w1 h1)
    clear hch hcn htk
    by_cases hlt:hi2<lo
    ·rw[Rw hc hh hc2 hlt]
     clear hc hh hc2
     go_enter Tryz.func277,Tryz.ntmps277
     go_wp2_with (first | (go_at_call 294;refine(HC.out _ hR1).mono ?_;rintro e w2 ⟨hcc,hj,rfl,hR2,hO2⟩;have hO3:=tV.trans hO2;have hX2:=hO2.box hX1 hne;obtain⟨y0,y1,y2,y3,y4⟩:=hR2.cells) | (go_at_call 276;go_must (refine(HT.out _ hR2).mono ?_;rintro e w4 ⟨rfl,pG,hO4⟩;have jO:=hO3.trans hO4;have gJ:=hO4.box hX2 hne)) | (go_at_call 294;go_must (refine(HC2.out _ pG).mono ?_;rintro e w6 ⟨hc6,Zv,rfl,kG,lI⟩;have sQ:=jO.trans lI;have tY:=lI.box gJ hne)) | (go_at_call 291;go_must (refine(HF.out _ _ kG).mono ?_;simp only[if_true];rintro e w8 ⟨rfl,wL,Aa⟩;have zf:=sQ.trans Aa;have OD:=Aa.box tY hne)) | (go_at_call 295;go_must (refine(uJ lo hi2 _ hcc hc6).mono ?_;rintro e w5 ⟨rfl,bF⟩;have VE:=wL.kept bF;have dA:=OD.kept bF;have VF:=zf.trans (Only.below bF (Nat.le_of_lt wL.box.lt));have p0:=dA.cell 0;have p1:=dA.cell 1;have p2:=dA.cell 2;have p3:=dA.cell 3;have q0:=dA.free 0;have q1:=dA.free 1;have q2:=dA.free 2;have q3:=dA.free 3)))
     obtain⟨hE1,hE2⟩:=FQ h VE VF (.int .u64 (word (gW lo hi2) 0:Nat)) (.int .u64 (word (gW lo hi2) 1:Nat)) (.int .u64 (word (gW lo hi2) 2:Nat)) (.int .u64 (word (gW lo hi2) 3:Nat))
     exact cZ Tryz.results277 rfl (dA.eG rfl _ _ _ _) Tryz.underlying113 rfl (by kernel_rfl) rfl (.err (by decide) Zv ⟨rfl,hE1,hE2⟩)
    ·rw[OC hc hh hc2 hlt]
     clear hc hh hc2
     go_enter Tryz.func277,Tryz.ntmps277
     go_wp2_with (first | (go_at_call 294;refine(HC.out _ hR1).mono ?_;rintro e w2 ⟨hcc,hj,rfl,hR2,hO2⟩;have hO3:=tV.trans hO2;have hX2:=hO2.box hX1 hne;obtain⟨y0,y1,y2,y3,y4⟩:=hR2.cells) | (go_at_call 276;go_must (refine(HT.out _ hR2).mono ?_;rintro e w4 ⟨rfl,pG,hO4⟩;have jO:=hO3.trans hO4;have gJ:=hO4.box hX2 hne)) | (go_at_call 294;go_must (refine(HC2.out _ pG).mono ?_;rintro e w6 ⟨hc6,Zv,rfl,kG,lI⟩;have sQ:=jO.trans lI;have tY:=lI.box gJ hne)) | (go_at_call 295;go_must (refine(uJ lo hi2 _ hcc hc6).mono ?_;rintro e w5 ⟨rfl,bF⟩;have VE:=kG.kept bF;have dA:=tY.kept bF;have VF:=sQ.trans (Only.below bF (Nat.le_of_lt kG.box.lt));have p0:=dA.cell 0;have p1:=dA.cell 1;have p2:=dA.cell 2;have p3:=dA.cell 3;have q0:=dA.free 0;have q1:=dA.free 1;have q2:=dA.free 2;have q3:=dA.free 3)))
     obtain⟨hE1,hE2⟩:=FQ h VE VF (.int .u64 (word (gW lo hi2) 0:Nat)) (.int .u64 (word (gW lo hi2) 1:Nat)) (.int .u64 (word (gW lo hi2) 2:Nat)) (.int .u64 (word (gW lo hi2) 3:Nat))
     exact cZ Tryz.results277 rfl (dA.eG rfl _ _ _ _) Tryz.underlying113 rfl (by kernel_rfl) rfl (.ok Zv ⟨rfl,hE1,hE2⟩)
end
end Go.Proofs.YtengfapcaaacaaaGreatDoor
