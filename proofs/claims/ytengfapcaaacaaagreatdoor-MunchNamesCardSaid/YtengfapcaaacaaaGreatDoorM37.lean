/- The texts of N37, in few letters (mini.py). -/
import Derived.Test.YtengfapcaaacaaaGreatDoorM36
import Derived.Lib.SlBytesConst
set_option linter.unusedVariables false
set_option linter.unusedSimpArgs false
set_option maxRecDepth 20000
set_option maxHeartbeats 6400000
namespace Go.Proofs.YtengfapcaaacaaaGreatDoor
section
open Go.RowKit
def jD(D:bC)(k:Int):List UInt8:=if jC D=true∧1≤k∧k≤(D.names.length:Nat) then D.names.getD (k.toNat - 1) [] else []
def iy(t:List UInt8)(p q:Int):List UInt8:=if 0≤p∧p≤q∧q≤(t.length:Nat) then (t.drop p.toNat).take (q.toNat - p.toNat) else []
theorem sO{D:bC}{k:Int}(h:jC D=false∨k<1∨(D.names.length:Int)<k):jD D k=[]:=by
 unfold jD
 refine if_neg ?_
 rintro⟨h1,h2,h3⟩
 rcases h with hh | hh | hh
 ·rw[hh] at h1;cases h1
 ·omega
 ·omega
theorem qw{t:List UInt8}{p q:Int}(h:p<0∨q<p∨(t.length:Int)<q):iy t p q=[]:=by
 unfold iy
 refine if_neg ?_
 rintro⟨h1,h2,h3⟩
 omega
theorem Yz(V:aG)(D:bC)(k p q:Int)(w:World)(h:iJ w V D)(hof:∀ b,V.of b<256)(hl:∀ x∈D.names,x.length≤9223372036854775807)(hk:(Lit.int .i64 k).wf=true) :
  Calls Tryz.prog 32 #[.agg V.cells,.agg #[.int .i64 k,.int .i64 p,.int .i64 q]] w (aY w (sv (jD D k))):=by
 have hbx:=Box.new w V.cells 27
 have hB0:=aj w (.cells V.cells 27)
 have hby:Box ((w.alloc (.cells V.cells 27)).alloc (.cells #[.int .i64 k,.int .i64 p,.int .i64 q] 61)) (w.heap.size+1) #[.int .i64 k,.int .i64 p,.int .i64 q] 61:=Box.new' (World.size_alloc _ _).symm _ _
 have hB1:Below w.heap.size w ((w.alloc (.cells V.cells 27)).alloc (.cells #[.int .i64 k,.int .i64 p,.int .i64 q] 61)):=hB0.alloc hB0.size _
 have dO:=hbx.kept (aj (w.alloc (.cells V.cells 27)) (.cells #[.int .i64 k,.int .i64 p,.int .i64 q] 61))
 have HR:=ah (fun u hu=>UZ V D u (h.kept hu) hof hl)
 obtain⟨e1,e2,e3⟩:=h.lens
 have hnm:=h.2.2.2.1
 rw[e2] at hnm
 obtain⟨nb,no,_,hnc,yS,hna,hnx⟩:=hnm.dh (f:=fun x=>sv x)
 have oZ:=ah hna;have Aw:=ah hnx
 have HAT:=ah (fun(u:World) (hx:Box u w.heap.size V.cells 27)=>(show u.cell? ⟨w.heap.size,259,none⟩=some (.slice V.ma D.names.length V.mc) by rw[←e2];exact hx.kS.2.2.2))
 have hkr:-9223372036854775808≤k∧k≤9223372036854775807:=by
  obtain⟨a,b⟩:IntKind.i64.min≤k∧k≤9223372036854775807:=by simpa [Lit.wf] using hk
  exact⟨a,b⟩
 have hemp:sv []=.string ⟨#[]⟩:=rfl
 clear hnm hna hnx e1 e3 hbx hB0
 by_cases hr:jC D=true
 ·by_cases h1:k<1
  ·have d1:decide (k<1)=true:=decide_eq_true h1
   have AV:=ah (sO (D:=D) (.inr (.inl h1)))
   rw[hr] at HR
   clear h hl hr hof
   go_enter Tryz.func32,Tryz.ntmps32
   go_wp2_with (first | (refine bM (by rfl) 27 _ rfl w.heap.size rfl _ _ _ _ dO Tryz.underlying27 rfl (bQ _) ?_) | (go_at_call 25;go_must (refine(HR.out _ hB1).mono ?_;rintro e w2 ⟨rfl,hb2⟩;have hB2:=hB1.trans (hb2.mono hB1.size);have hy:=hby.kept hb2;have y0:w2.cell? ⟨w.heap.size+1,0,none⟩=some (.int .i64 k):=hy.cell 0;have ly:=hy.lt)))
   go_ret
   exact⟨by rw[AV.out];rfl,hB2⟩
  ·by_cases h2:(D.names.length:Int)<k
   ·have d1:decide (k<1)=false:=decide_eq_false h1
    have d2:decide ((D.names.length:Int)<k)=true:=decide_eq_true h2
    have AV:=ah (sO (D:=D) (.inr (.inr h2)))
    rw[hr] at HR
    clear h hl hr hof
    go_enter Tryz.func32,Tryz.ntmps32
    go_wp2_with (first | (refine bM (by rfl) 27 _ rfl w.heap.size rfl _ _ _ _ dO Tryz.underlying27 rfl (bQ _) ?_) | (go_at_call 25;go_must (refine(HR.out _ hB1).mono ?_;rintro e w2 ⟨rfl,hb2⟩;have hB2:=hB1.trans (hb2.mono hB1.size);have hy:=hby.kept hb2;have y0:w2.cell? ⟨w.heap.size+1,0,none⟩=some (.int .i64 k):=hy.cell 0;have ly:=hy.lt;have x3:=HAT.out w2 (dO.kept hb2);have lx:=World.block_lt_of_cell? w2 _ x3)))
    go_ret
    exact⟨by rw[AV.out];rfl,hB2⟩
   ·obtain⟨j,rfl⟩:∃ j:Nat,k=(j:Int)+1:=⟨(k - 1).toNat,by omega⟩
    have hj:j<D.names.length:=by omega
    have d1:decide ((j:Int)+1<1)=false:=decide_eq_false (by omega)
    have d2:decide ((D.names.length:Int)<(j:Int)+1)=false:=decide_eq_false (by omega)
    have hret:jD D ((j:Int)+1)=D.names[j]:=by
     unfold jD
     rw[if_pos ⟨hr,by omega,by omega⟩,show((j:Int)+1).toNat - 1=j by omega,List.getD_eq_getElem?_getD,List.getElem?_eq_getElem hj];rfl
    rw[hret]
    have hma:=oZ.out j hj
    have HC:=ah (Aw.out j hj)
    generalize D.names[j]=nm at *
    have hji:(j:Int)<(D.names.length:Int):=by omega
    have hj0:(0:Int)≤(j:Int):=by omega
    rw[hr] at HR
    clear h hl hr hof hret
    rw[hma] at HAT
    clear oZ Aw
    generalize D.names.length=nn at *
    go_enter Tryz.func32,Tryz.ntmps32
    go_wp2_with (first | (refine bM (by rfl) 27 _ rfl w.heap.size rfl _ _ _ _ dO Tryz.underlying27 rfl (bQ _) ?_) | (go_at_call 25;go_must (refine(HR.out _ hB1).mono ?_;rintro e w2 ⟨rfl,hb2⟩;have hB2:=hB1.trans (hb2.mono hB1.size);have hy:=hby.kept hb2;have y0:w2.cell? ⟨w.heap.size+1,0,none⟩=some (.int .i64 ((j:Int)+1)):=hy.cell 0;have ly:=hy.lt;have x3:=HAT.out w2 (dO.kept hb2);have lx:=World.block_lt_of_cell? w2 _ x3;have c0:=HC.out w2 hB2;have lc:=World.block_lt_of_cell? w2 _ c0)))
    go_ret
    exact⟨rfl,hB2⟩
 ·have AV:=ah (sO (D:=D) (k:=k) (.inl (by simpa using hr)))
  rw[show jC D=false by simpa using hr] at HR
  clear h hl hr hof
  go_enter Tryz.func32,Tryz.ntmps32
  go_wp2_with (first | (refine bM (by rfl) 27 _ rfl w.heap.size rfl _ _ _ _ dO Tryz.underlying27 rfl (bQ _) ?_) | (go_at_call 25;go_must (refine(HR.out _ hB1).mono ?_;rintro e w2 ⟨rfl,hb2⟩;have hB2:=hB1.trans (hb2.mono hB1.size))))
  go_ret
  exact⟨by rw[AV.out];rfl,hB2⟩
end
section
open Go.RowKit
def mF{α:Type}(x0:α)(F:Nat→α)(n k:Nat):List α:=(List.range n).map fun i=>if i<k then F i else x0
theorem wI{α:Type}(x0:α)(F:Nat→α)(n k:Nat):(mF x0 F n k).length=n:=by simp[mF]
theorem rQ{α:Type}(x0:α)(F:Nat→α)(n k i:Nat)(h:i<(mF x0 F n k).length):(mF x0 F n k)[i]=if i<k then F i else x0:=by simp[mF]
theorem YA{α:Type}(x0:α)(F:Nat→α)(n:Nat):mF x0 F n 0=List.replicate n x0:=by
 apply List.ext_getElem
 ·simp[mF]
 ·intro i h1 h2;rw[rQ,if_neg (by omega),List.getElem_replicate]
theorem abu{α:Type}(x0:α)(F:Nat→α)(n k:Nat)(x:α)(hx:F k=x):(mF x0 F n k).set k x=mF x0 F n (k+1):=by
 apply List.ext_getElem
 ·simp[mF]
 ·intro i h1 h2
  rw[List.getElem_set,rQ,rQ]
  by_cases e:k=i
  ·subst e;rw[if_pos rfl,if_pos (by omega),hx]
  ·rw[if_neg e]
   by_cases h:i<k
   ·rw[if_pos h,if_pos (by omega)]
   ·rw[if_neg h,if_neg (by omega)]
theorem YB{α:Type}(x0:α)(F:Nat→α)(n k:Nat)(hx:F k=x0):mF x0 F n (k+1)=mF x0 F n k:=by
 apply List.ext_getElem
 ·simp[mF]
 ·intro i h1 h2
  rw[rQ,rQ]
  by_cases e:k=i
  ·subst e;rw[if_pos (by omega),if_neg (by omega),hx]
  ·by_cases h:i<k
   ·rw[if_pos h,if_pos (by omega)]
   ·rw[if_neg h,if_neg (by omega)]
theorem YC{α β:Type}(x0:α)(G:β→α)(l:List β)(z:β):mF x0 (fun i=>G (l.getD i z)) l.length l.length=l.map G:=by
 apply List.ext_getElem
 ·simp[mF]
 ·intro i h1 h2
  rw[List.length_map] at h2
  rw[rQ,if_pos h2,List.getElem_map,List.getD_eq_getElem?_getD,List.getElem?_eq_getElem h2];rfl
theorem aeb(V:aG)(D:bC)(toks:List (Int×Int×Int))(ta:Option Addr)(n tc:Nat)(w:World)(h:iJ w V D)(hl:∀ x∈D.names,x.length≤9223372036854775807)(ht:ak w (.slice ta n tc) 3 BR toks)(hn:n*24≤140737488355328) :
  Calls Tryz.prog 30 #[.agg V.cells,.slice ta n tc] w (iU w 9 1 kV (toks.map fun x=>jD D x.1)):=by
 have hbx:=Box.new w V.cells 27
 have hB0:=aj w (.cells V.cells 27)
 obtain⟨rt,hrt⟩:∃ rt,jC D=rt:=⟨_,rfl⟩
 have HR:=ah (fun u hu=>hrt▸BD V D u (h.kept hu) hl)
 obtain⟨e1,e2,e3⟩:=h.lens
 have hnm:=h.2.2.2.1
 rw[e2] at hnm
 obtain⟨nb,no,_,hnc,yS,hna,hnx⟩:=hnm.dh (f:=fun x=>sv x)
 have oZ:=ah hna;have Aw:=ah hnx
 have HAT:=ah (fun(u:World) (hx:Box u w.heap.size V.cells 27)=>(show u.cell? ⟨w.heap.size,259,none⟩=some (.slice V.ma D.names.length V.mc) by rw[←e2];exact hx.kS.2.2.2))
 obtain⟨b,o,hnl,hcap,hcap2,ha,hx⟩:=ht.open
 have HX:=ah hx;have HA:=ah ha;have HN:=ah hnl
 obtain⟨F,hF⟩:∃ F:Nat→List UInt8,(fun i=>jD D (toks.getD i (0,0,0)).1)=F:=⟨_,rfl⟩
 have hfull:toks.map (fun x=>jD D x.1)=mF [] F n n:=by rw[←hF,hnl];exact(YC [] (fun x:Int×Int×Int=>jD D x.1) toks (0,0,0)).symm
 have HF:=ah (fun k (hk:k<toks.length)=>(show F k=jD D toks[k].1 by rw[←hF];dsimp only;rw[List.getD_eq_getElem?_getD,List.getElem?_eq_getElem hk];rfl))
 rw[hfull]
 have Gf:=ah hrt
 clear hnm hna hnx e1 e3 h hl ht ha hx hnl hfull hF hrt
 go_enter Tryz.func30,Tryz.ntmps30
 go_wp2_with (first | (refine bM (by rfl) 27 _ rfl w.heap.size rfl _ _ _ _ hbx Tryz.underlying27 rfl (bQ _) ?_) | (go_at_call 37;go_must (refine(HR.out _ hB0).mono ?_;rintro e w2 ⟨rfl,hb2⟩;have hx2:=hbx.kept hb2;have hB2:=hB0.trans (hb2.mono hB0.size))) | (refine nZ rfl 25 _ _ rfl Gn xw [] rfl n rfl rfl (by omega) (by simp only[maxLen];omega) w2.heap.size (Nat.le_refl _) ?_;intro w3 wO hw3;have hb3:Below w2.heap.size w2 w3:=by { rw[hw3];exact aj _ _ };have hs3:w3.heap.size=w2.heap.size+1:=by { rw[hw3,World.size_alloc] };clear hw3))
 have hs2:=hx2.lt
 have hB3:=hB2.trans (hb3.mono hB2.size)
 have hx3:=hx2.kept hb3
 obtain⟨g,hg⟩:∃ g,w2.heap.size=g:=⟨_,rfl⟩
 rw[hg] at wO hs2 hs3
 rw[←YA [] F n] at wO
 have HM3:=ah wO;have HB3:=ah hB3;have HX3:=ah hx3
 clear wO hB3 hx3 hbx hx2 hB2 hb3 HR hB0
 rw[hg]
 clear hg
 go_loopw [16] (fun v wr=>∃ k:Nat,k≤n∧v=.int .i64 k∧Own wr g 9 1 kV (.slice (some ⟨g,0,none⟩) n n) (mF [] F n k)∧Below w.heap.size w wr∧Box wr w.heap.size V.cells 27∧w3.heap.size≤wr.heap.size) (fun v _=>n - (intOf v).toNat)
 case atStart=>exact⟨0,Nat.zero_le _,rfl,HM3.out,HB3.out,HX3.out,Nat.le_refl _⟩
 case round =>
  obtain⟨k,hk,rfl,hown,hB,hbx,hsz⟩:=hrel
  by_cases hlt:k<n
  ·have hk2:k<toks.length:=by rw[←HN.out];exact hlt
   obtain rfl:=HA.out k hk2
   have hfk:=HF.out k hk2
   have hy:∀ j u,(BR toks[k])[j]?=some u→wr.cell? ⟨b,o+k*3+j,none⟩=some u:=fun j u hu=>by
    have:=HX.out k hk2 j u hu
    rw[hB.cell (World.block_lt_of_cell? w _ this)];exact this
   generalize toks[k]=x at *
   obtain⟨c,p,q⟩:=x
   have y0:=hy 0 _ rfl
   have y1:=hy 1 _ rfl
   have y2:=hy 2 _ rfl
   have hbl:=World.block_lt_of_cell? wr _ y0
   simp only[Nat.add_zero] at y0
   have x3:=HAT.out wr hbx
   have lx:=World.block_lt_of_cell? wr _ x3
   have hki:(k:Int)<(n:Int):=by omega
   have hk0:(0:Int)≤(k:Int):=by omega
   have HO:=ah hown;have BP:=ah hB;have EW:=ah hbx
   have hal:=aj wr (.cells #[.int .i64 c,.int .i64 p,.int .i64 q] 61)
   have MF:=ah (fun(e:F k=[])=>(⟨⟨k+1,hlt,by push_cast;rfl,by rw[YB _ _ _ _ e];exact hown.kept hal,hB.trans (hal.mono hB.size),hbx.kept hal,by rw[World.size_alloc];omega⟩,by simp[intOf];omega⟩:(∃ k':Nat,k'≤n∧Value.int .i64 ((k:Int)+1)=.int .i64 k'∧Own (wr.alloc (.cells #[.int .i64 c,.int .i64 p,.int .i64 q] 61)) g 9 1 kV (.slice (some ⟨g,0,none⟩) n n) (mF [] F n k')∧Below w.heap.size w (wr.alloc (.cells #[.int .i64 c,.int .i64 p,.int .i64 q] 61))∧Box (wr.alloc (.cells #[.int .i64 c,.int .i64 p,.int .i64 q] 61)) w.heap.size V.cells 27∧w3.heap.size≤(wr.alloc (.cells #[.int .i64 c,.int .i64 p,.int .i64 q] 61)).heap.size)∧n - (intOf (Value.int .i64 ((k:Int)+1))).toNat<n - (intOf (Value.int .i64 (k:Int))).toNat))
   clear hown hB hbx hy hal
   cases rt with
   | false =>
    have hno:=hfk.trans (sO (.inl Gf.out))
    clear hfk
    have Hg:=ah hno
    clear hno x3
    go_wp2
    exact MF.out Hg.out
   | true =>
    by_cases h1:c<1
    ·have hno:=hfk.trans (sO (D:=D) (.inr (.inl h1)))
     have d1:decide (0<c)=false:=decide_eq_false (by omega)
     have Hg:=ah hno
     clear hfk hno x3 h1
     go_wp2
     exact MF.out Hg.out
    ·by_cases h2:(D.names.length:Int)<c
     ·have hno:=hfk.trans (sO (D:=D) (.inr (.inr h2)))
      have d1:decide (0<c)=true:=decide_eq_true (by omega)
      have d2:decide (c≤(D.names.length:Int))=false:=decide_eq_false (by omega)
      have Hg:=ah hno
      clear hfk hno h1 h2
      go_wp2
      exact MF.out Hg.out
     ·obtain⟨j,rfl⟩:∃ j:Nat,c=(j:Int)+1:=⟨(c - 1).toNat,by omega⟩
      have hj:j<D.names.length:=by omega
      have d1:decide (0<(j:Int)+1)=true:=decide_eq_true (by omega)
      have d2:decide ((j:Int)+1≤(D.names.length:Int))=true:=decide_eq_true (by omega)
      have hret:jD D ((j:Int)+1)=D.names[j]:=by
       unfold jD
       rw[if_pos ⟨Gf.out,by omega,by omega⟩,show((j:Int)+1).toNat - 1=j by omega,List.getD_eq_getElem?_getD,List.getElem?_eq_getElem hj];rfl
      rw[hret] at hfk
      have hma:=oZ.out j hj
      have c0:=Aw.out j hj wr BP.out
      have lc:=World.block_lt_of_cell? wr _ c0
      rw[hma] at x3
      have hst:=HO.out.store1 (i:=k) (j:=0) (by rw[wI];exact hlt) (by decide) D.names[j] (sv D.names[j]) (fun t ht=>by
       have:t=0:=Nat.lt_one_iff.1 ht
       subst this
       rfl)
      rw[abu _ _ _ _ _ hfk,show k*1+0=k by omega] at hst
      obtain⟨g1,g2,g3,g4⟩:=HO.out.cellAt (i:=k) (j:=0) (by rw[wI];exact hlt) (by decide)
      rw[show k*1+0=k by omega] at g1 g2
      have g1':wr.cell? ⟨g,k,none⟩=some (sv []):=by rw[g1,rQ,if_neg (by omega)];rfl
      have hkr:(j:Int)+1≤9223372036854775807:=by omega
      generalize D.names[j]=nm at *
      have hji:(j:Int)<(D.names.length:Int):=by omega
      have hj0:(0:Int)≤(j:Int):=by omega
      have hgl:g<wr.heap.size:=by omega
      have HST:=ah hst
      clear g1 hfk hret hst hma oZ Aw HAT HN HF HX HA h2 h1 hk2 hk MF hj
      generalize D.names.length=nn at *
      go_wp2
      have hal':=aj (wr.setCell ⟨g,k,none⟩ (sv nm)) (.cells #[.int .i64 ((j:Int)+1),.int .i64 p,.int .i64 q] 61)
      have hB1:Below w.heap.size w (wr.setCell ⟨g,k,none⟩ (sv nm)):=BP.out.setCell (p:=⟨g,k,none⟩) (Nat.le_of_lt hs2) (sv nm)
      have dO:Box (wr.setCell ⟨g,k,none⟩ (sv nm)) w.heap.size V.cells 27:=(heap_setCell_other _ _ _ _ (by show w.heap.size≠g;omega)).trans EW.out
      exact⟨⟨k+1,hlt,by push_cast;rfl,HST.out.kept hal',hB1.trans (hal'.mono hB1.size),dO.kept hal',by rw[World.size_alloc,World.size_setCell];omega⟩,by simp[intOf];omega⟩
  ·obtain rfl:k=n:=by omega
   have HO:=ah hown;have BP:=ah hB
   clear hown hB hbx
   go_wp2
   go_ret
   exact⟨some ⟨g,0,none⟩,k,by rw[wI];rfl,by rw[wI];exact HO.out.mono (Nat.le_of_lt hs2),BP.out⟩
end
section
open Go.RowKit
theorem ak.piece{α:Type}{f:α→Value}{w:World}{a:Option Addr}{n cap:Nat}{xs:List α}(h:ak w (.slice a n cap) 1 (fun x=>[f x]) xs)(p q:Nat)(hp:p≤q)(hq:q≤n) :
  ak w (.slice (if cap=p then a else a.map (fun x:Addr=>x.add p)) (q - p) (cap - p)) 1 (fun x=>[f x]) ((xs.drop p).take (q - p)):=by
 have h0:=h
 obtain⟨a',b,o,cap',hv,hl,hc,ha,hx⟩:=h
 obtain⟨rfl,rfl,rfl⟩:=Value.slice.inj hv
 rcases ha with rfl | ⟨rfl,hcn⟩
 ·have:=h0.sub (f:=f) p (q - p) (by omega)
  have e:CB b o cap p=(if cap=p then some ⟨b,o,none⟩ else Option.map (fun x:Addr=>x.add p) (some ⟨b,o,none⟩)):=by
   unfold CB
   by_cases e:cap=p
   ·rw[if_pos e,if_pos e]
   ·rw[if_neg e,if_neg e];simp[Addr.add]
  rwa[e] at this
 ·have hq0:q=0:=by simpa using hq
  subst hq0
  obtain rfl:p=0:=by omega
  refine⟨if cap=0 then a else a.map (fun x:Addr=>x.add 0),b,o,cap,rfl,by simp,hc,.inr ⟨by simp,fun hn=>?_⟩,fun i hi=>by simp at hi⟩
  by_cases e:cap=0
  ·exact e
  ·rw[if_neg e,Option.map_eq_none_iff] at hn
   exact hcn hn
def afn(w:World)(L:List UInt8)(e:Ending)(w':World):Prop:=∃ v,e=.returned v∧ak w' v 1 bK L∧(∃ a n c,v=.slice a n c)∧Below w.heap.size w w'
theorem YD{α:Type}(w:World)(size:Nat)(enc:α→List Value):ak w (.slice none 0 0) size enc []:=⟨none,0,0,0,rfl,Nat.le_refl _,by simp[maxLen],.inr ⟨rfl,fun _=>rfl⟩,fun i hi=>by simp at hi⟩
theorem Vj(t:List UInt8)(ta:Option Addr)(tn tc:Nat)(k p q:Int)(w:World)(hT:ak w (.slice ta tn tc) 1 bK t) :
  Calls Tryz.prog 33 #[.slice ta tn tc,.agg #[.int .i64 k,.int .i64 p,.int .i64 q]] w (afn w (iy t p q)):=by
 obtain⟨tb,to_,htn,htc,ai7,_⟩:=ak.dh (f:=fun x:UInt8=>Value.int .u8 (x.toNat:Nat)) hT
 subst htn
 have hB1:=aj w (.cells #[.int .i64 k,.int .i64 p,.int .i64 q] 61)
 have JW:∀ (v:Value),v=.slice none 0 0→iy t p q=[]→afn w (iy t p q) (.returned v) (w.alloc (.cells #[.int .i64 k,.int .i64 p,.int .i64 q] 61)):=fun v hv h0=>by
  rw[h0,hv]
  exact⟨_,rfl,YD _ _ _,⟨_,_,_,rfl⟩,hB1⟩
 by_cases h1:p<0
 ·have d1:decide (p<0)=true:=decide_eq_true h1
  have AV:=ah (JW _ rfl (qw (.inl h1)))
  clear hT JW
  go_enter Tryz.func33,Tryz.ntmps33
  go_wp2
  go_ret
  exact AV.out
 ·by_cases h2:q<p
  ·have d1:decide (p<0)=false:=decide_eq_false h1
   have d2:decide (q<p)=true:=decide_eq_true h2
   have AV:=ah (JW _ rfl (qw (.inr (.inl h2))))
   clear hT JW
   go_enter Tryz.func33,Tryz.ntmps33
   go_wp2
   go_ret
   exact AV.out
  ·by_cases h3:(t.length:Int)<q
   ·have d1:decide (p<0)=false:=decide_eq_false h1
    have d2:decide (q<p)=false:=decide_eq_false h2
    have d3:decide ((t.length:Int)<q)=true:=decide_eq_true h3
    have AV:=ah (JW _ rfl (qw (.inr (.inr h3))))
    clear hT JW
    go_enter Tryz.func33,Tryz.ntmps33
    go_wp2
    go_ret
    exact AV.out
   ·obtain⟨p,rfl⟩:∃ j:Nat,p=(j:Int):=⟨p.toNat,by omega⟩
    obtain⟨q,rfl⟩:∃ j:Nat,q=(j:Int):=⟨q.toNat,by omega⟩
    have hpq:p≤q:=by omega
    have hqn:q≤t.length:=by omega
    have hret:iy t (p:Nat) (q:Nat)=(t.drop p).take (q - p):=by
     unfold iy
     rw[if_pos ⟨by omega,by omega,by omega⟩,Int.toNat_natCast,Int.toNat_natCast]
    have HS:=ah ((hT.kept hB1).piece (f:=fun x:UInt8=>Value.int .u8 (x.toNat:Nat)) p q hpq hqn)
    have d1:decide ((p:Int)<0)=false:=decide_eq_false h1
    have d2:decide ((q:Int)<(p:Int))=false:=decide_eq_false h2
    have d3:decide ((t.length:Int)<(q:Int))=false:=decide_eq_false h3
    have d4:decide (q<p)=false:=decide_eq_false (by omega)
    have d5:decide (t.length<q)=false:=decide_eq_false (by omega)
    have hi1:(p:Int)≤(q:Int):=by omega
    have hi2:(q:Int)≤(tc:Int):=by omega
    have hi0:(0:Int)≤(p:Int):=by omega
    rw[hret]
    clear hT JW hret h1 h2 h3
    by_cases hx:tc=p
    ·subst hx
     rw[if_pos rfl,Nat.sub_self] at HS
     go_enter Tryz.func33,Tryz.ntmps33
     go_wp2
     go_ret
     exact⟨_,rfl,HS.out,⟨_,_,_,rfl⟩,hB1⟩
    ·rw[if_neg hx] at HS
     go_enter Tryz.func33,Tryz.ntmps33
     go_wp2
     go_ret
     exact⟨_,rfl,HS.out,⟨_,_,_,rfl⟩,hB1⟩
end
section
open Go.RowKit
theorem aec:dQ Tryz.prog 57 35 (.slice none 0 0) 1 24:=⟨Tryz.underlying57,info_parts (by kernel_rfl),rfl,by decide⟩
structure BU(P:Nat→List UInt8)(n g k:Nat)(vs:List yI)(w:World):Prop where
 len:vs.length=n
 own:Own w g 35 1 uz (.slice (some ⟨g,0,none⟩) n n) vs
 say:∀ i (h:i<vs.length),i<k→Own w (g+1) 5 1 bK (.slice vs[i].1 vs[i].2.1 vs[i].2.2) (P i)
 nil:∀ i (h:i<vs.length),k≤i→vs[i]=(none,0,0)
section
variable {P:Nat→List UInt8} {n g k:Nat} {vs:List yI} {w w':World}
theorem BU.kept(h:BU P n g k vs w)(hb:Below w.heap.size w w'):BU P n g k vs w':=⟨h.len,h.own.kept hb,fun i hi hk=>(h.say i hi hk).kept hb,h.nil⟩
theorem BU.skip(h:BU P n g k vs w)(hk:P k=[]):BU P n g (k+1) vs w:=⟨h.len,h.own,fun i hi hk2=>by
 by_cases e:i=k
 ·subst e
  rw[h.nil i hi (Nat.le_refl _),hk]
  exact Own.nil _ _ _ _ _
 ·exact h.say i hi (by omega),fun i hi hk2=>h.nil i hi (by omega)⟩
theorem BU.put(h:BU P n g k vs w)(hk:k<n){a:Option Addr}{l c:Nat}(ho:Own w (g+1) 5 1 bK (.slice a l c) (P k)):BU P n g (k+1) (vs.set k (a,l,c)) (w.setCell ⟨g,k,none⟩ (.slice a l c)):=by
 have hl:=h.len
 have hst:=h.own.store1 (i:=k) (j:=0) (by omega) (by decide) (a,l,c) (.slice a l c) (fun t ht=>by
  have:t=0:=Nat.lt_one_iff.1 ht
  subst this
  rfl)
 rw[show k*1+0=k by omega] at hst
 refine⟨by rw[List.length_set];exact hl,hst,fun i hi hk2=>?_,fun i hi hk2=>?_⟩
 ·rw[List.length_set] at hi
  rw[List.getElem_set]
  by_cases e:k=i
  ·subst e;rw[if_pos rfl];exact ho.other _ _ (Nat.lt_succ_self g)
  ·rw[if_neg e];exact(h.say i hi (by omega)).other _ _ (Nat.lt_succ_self g)
 ·rw[List.length_set] at hi
  rw[List.getElem_set,if_neg (by omega)]
  exact h.nil i hi (by omega)
end
def abv(w:World)(ps:List (List UInt8))(e:Ending)(w':World):Prop :=
 ∃ (a:Option Addr) (c:Nat) (vs:List yI),e=.returned (.slice a ps.length c)∧vs.length=ps.length∧ak w' (.slice a ps.length c) 1 uz vs∧(∀ i (h:i<vs.length) (h2:i<ps.length),ak w' (.slice vs[i].1 vs[i].2.1 vs[i].2.2) 1 bK ps[i])∧Below w.heap.size w w'
theorem BU.ret{P:Nat→List UInt8}{n g:Nat}{vs:List yI}{w w':World}(h:BU P n g n vs w')(hb:Below w.heap.size w w')(ps:List (List UInt8))(hn:ps.length=n)(hp:∀ i (h:i<ps.length),ps[i]=P i):abv w ps (.returned (.slice (some ⟨g,0,none⟩) n n)) w':=by
 subst hn
 exact⟨_,_,vs,rfl,h.len,h.own.slice uG,fun i hi h2=>by rw[hp i h2];exact(h.say i hi h2).slice uM,hb⟩
theorem abw(t:List UInt8)(ta:Option Addr)(tn tc:Nat)(toks:List (Int×Int×Int))(la:Option Addr)(n lc:Nat)(w:World)(hT:ak w (.slice ta tn tc) 1 bK t)(ht:ak w (.slice la n lc) 3 BR toks)(hn:n*24≤140737488355328)(htl:t.length≤140737488355328) :
  Calls Tryz.prog 31 #[.slice ta tn tc,.slice la n lc] w (abv w (toks.map fun x=>iy t x.2.1 x.2.2)):=by
 obtain⟨b,o,hnl,hcap,hcap2,ha,hx⟩:=ht.open
 obtain⟨tb,to_,htn,htc,ai7,_⟩:=hT.open
 have HX:=ah hx;have HA:=ah ha;have HN:=ah hnl
 obtain⟨F,hF⟩:∃ F:Nat→List UInt8,(fun i=>iy t (toks.getD i (0,0,0)).2.1 (toks.getD i (0,0,0)).2.2)=F:=⟨_,rfl⟩
 have HF:=ah (fun k (hk:k<toks.length)=>(show F k=iy t toks[k].2.1 toks[k].2.2 by rw[←hF];dsimp only;rw[List.getD_eq_getElem?_getD,List.getElem?_eq_getElem hk];rfl))
 have HT:=ah hT;have HTN:=ah htn
 rw[←htn] at htl htc
 clear hF ht hx hnl ha hT htn
 go_enter Tryz.func31,Tryz.ntmps31
 go_wp2_with (refine nZ rfl 57 _ _ rfl aec uG (none,0,0) rfl n rfl rfl (by omega) (by simp only[maxLen];omega) w.heap.size (Nat.le_refl _) ?_;intro w3 wO hw3;have hb3:Below w.heap.size w w3:=by { rw[hw3];exact aj _ _ };have hs3:w3.heap.size=w.heap.size+1:=by { rw[hw3,World.size_alloc] };clear hw3)
 obtain⟨g,hg⟩:∃ g,w.heap.size=g:=⟨_,rfl⟩
 have hp3:BU F n g 0 (List.replicate n (none,0,0)) w3:=⟨List.length_replicate ..,hg▸wO,fun i _ h=>by omega,fun i h _=>by simp⟩
 have HP3:=ah hp3;have HB3:=ah hb3;have HG:=ah hg
 clear hp3 hb3 wO
 rw[hg] at hs3 ⊢
 clear hg
 go_loopw [13] (fun v wr=>∃ (k:Nat) (vs:List yI),k≤n∧v=.int .i64 k∧BU F n g k vs wr∧Below w.heap.size w wr∧w3.heap.size≤wr.heap.size) (fun v _=>n - (intOf v).toNat)
 case atStart=>exact⟨0,_,Nat.zero_le _,rfl,HP3.out,HB3.out,Nat.le_refl _⟩
 case round =>
  obtain⟨k,vs,hk,rfl,hP,hB,hsz⟩:=hrel
  by_cases hlt:k<n
  ·have hk2:k<toks.length:=by rw[←HN.out];exact hlt
   obtain rfl:=HA.out k hk2
   have hfk:=HF.out k hk2
   have hy:∀ j u,(BR toks[k])[j]?=some u→wr.cell? ⟨b,o+k*3+j,none⟩=some u:=fun j u hu=>by
    have:=HX.out k hk2 j u hu
    rw[hB.cell (World.block_lt_of_cell? w _ this)];exact this
   generalize toks[k]=x at *
   obtain⟨c,p,q⟩:=x
   have y0:=hy 0 _ rfl
   have y1:=hy 1 _ rfl
   have y2:=hy 2 _ rfl
   have hbl:=World.block_lt_of_cell? wr _ y0
   simp only[Nat.add_zero] at y0
   dsimp only at hfk
   have hki:(k:Int)<(n:Int):=by omega
   have hk0:(0:Int)≤(k:Int):=by omega
   have hal:=aj wr (.cells #[.int .i64 c,.int .i64 p,.int .i64 q] 61)
   have hP1:=hP.kept hal
   have hB1:=hB.trans (hal.mono hB.size)
   have hs1:w3.heap.size≤(wr.alloc (.cells #[.int .i64 c,.int .i64 p,.int .i64 q] 61)).heap.size:=by rw[World.size_alloc];omega
   have MF:=ah (fun(e:F k=[])=>(⟨⟨k+1,vs,hlt,by push_cast;rfl,hP1.skip e,hB1,hs1⟩,by simp[intOf];omega⟩:(∃ (k':Nat) (vs:List yI),k'≤n∧Value.int .i64 ((k:Int)+1)=.int .i64 k'∧BU F n g k' vs (wr.alloc (.cells #[.int .i64 c,.int .i64 p,.int .i64 q] 61))∧Below w.heap.size w (wr.alloc (.cells #[.int .i64 c,.int .i64 p,.int .i64 q] 61))∧w3.heap.size≤(wr.alloc (.cells #[.int .i64 c,.int .i64 p,.int .i64 q] 61)).heap.size)∧n - (intOf (Value.int .i64 ((k:Int)+1))).toNat<n - (intOf (Value.int .i64 (k:Int))).toNat))
   have HP1:=ah hP1;have HB1:=ah hB1
   clear hP hB hy hal hP1 hB1 hs1 HP3 HB3
   by_cases h1:p<0
   ·have hno:=hfk.trans (qw (.inl h1))
    have d1:decide (0≤p)=false:=decide_eq_false (by omega)
    have Hg:=ah hno
    clear hno hfk h1
    go_wp2
    exact MF.out Hg.out
   by_cases h2:q<p
   ·have hno:=hfk.trans (qw (.inr (.inl h2)))
    have d1:decide (0≤p)=true:=decide_eq_true (by omega)
    have d2:decide (p≤q)=false:=decide_eq_false (by omega)
    have Hg:=ah hno
    clear hno hfk h1 h2
    go_wp2
    exact MF.out Hg.out
   by_cases h3:(tn:Int)<q
   ·have hno:=hfk.trans (qw (.inr (.inr (by rw[←HTN.out];exact h3))))
    have d1:decide (0≤p)=true:=decide_eq_true (by omega)
    have d2:decide (p≤q)=true:=decide_eq_true (by omega)
    have d3:decide (q≤(tn:Int))=false:=decide_eq_false (by omega)
    have Hg:=ah hno
    clear hno hfk h1 h2 h3
    go_wp2
    exact MF.out Hg.out
   obtain⟨p,rfl⟩:∃ j:Nat,p=(j:Int):=⟨p.toNat,by omega⟩
   obtain⟨q,rfl⟩:∃ j:Nat,q=(j:Int):=⟨q.toNat,by omega⟩
   have hpq:p≤q:=by omega
   have hqn:q≤tn:=by omega
   have hret:F k=(t.drop p).take (q - p):=by
    rw[hfk]
    unfold iy
    rw[if_pos ⟨by omega,by omega,by rw[←HTN.out];omega⟩,Int.toNat_natCast,Int.toNat_natCast]
   have d1:decide ((0:Int)≤(p:Int))=true:=decide_eq_true (by omega)
   have d2:decide ((p:Int)≤(q:Int))=true:=decide_eq_true (by omega)
   have d3:decide ((q:Int)≤(tn:Int))=true:=decide_eq_true (by omega)
   have d4:decide (q<p)=false:=decide_eq_false (by omega)
   have d5:decide (tn<q)=false:=decide_eq_false (by omega)
   have hi1:(p:Int)≤(q:Int):=by omega
   have hi2:(q:Int)≤(tc:Int):=by omega
   have hi0:(0:Int)≤(p:Int):=by omega
   have hgs:g≤wr.heap.size:=by omega
   have HS:=ah (fun u (hu:Below w.heap.size w u)=>(HT.out.kept hu).piece (f:=fun x:UInt8=>Value.int .u8 (x.toNat:Nat)) p q hpq hqn)
   clear hfk h1 h2 h3
   by_cases hx:tc=p
   ·subst hx
    rw[if_pos rfl,Nat.sub_self] at HS
    go_wp2_with (at_builtin;go_must (refine Dn (v:=.slice (some ⟨wr.heap.size+1,0,none⟩) 0 0) (f:=fun x:UInt8=>Value.int .u8 (x.toNat:Nat)) rfl _ _ 35 rfl Ri uM rfl (Own.empty' (by simp[World.size_alloc]) (g+1) _ 1 bK (by rw[World.size_alloc];omega)) _ _ _ rfl (HS.out _ (HB1.out.alloc HB1.out.size _)) (by simp[maxLen];omega) (by simp;omega) (by rw[World.size_alloc,World.size_alloc];omega) ?_;intro a6 c6 w6 hown6 RU;have hb6:=grown_below (aj _ _) (by rw[World.size_alloc];exact RU);have oQ:=HP1.out.kept hb6;have kH:=HB1.out.trans (hb6.mono HB1.out.size);have hz6:=hb6.size;rw[World.size_alloc] at hz6;clear RU hb6;rw[show([]:List UInt8).length+(q - tc)=q - tc by simp,List.nil_append] at hown6;rw[show([]:List UInt8).length+(q - tc)=q - tc by simp];obtain⟨g1,g2,g3,g4⟩:=oQ.own.cellAt (i:=k) (j:=0) (by rw[oQ.len];exact hlt) (by decide);rw[show k*1+0=k by omega] at g1 g2;have g1':w6.cell? ⟨g,k,none⟩=some (.slice none 0 0):=by { rw[g1,oQ.nil k (by rw[oQ.len];exact hlt) (Nat.le_refl _)];rfl };clear g1;have hgl:g<w6.heap.size:=by omega))
    have lU:=kH.setCell (p:=⟨g,k,none⟩) (by rw[HG.out];exact Nat.le_refl _) (.slice a6 (q - tc) c6)
    exact⟨⟨k+1,_,hlt,by push_cast;rfl,oQ.put hlt (by rw[hret];exact hown6),lU,by rw[World.size_setCell];omega⟩,by simp[intOf];omega⟩
   ·rw[if_neg hx] at HS
    go_wp2_with (at_builtin;go_must (refine Dn (v:=.slice (some ⟨wr.heap.size+1,0,none⟩) 0 0) (f:=fun x:UInt8=>Value.int .u8 (x.toNat:Nat)) rfl _ _ 35 rfl Ri uM rfl (Own.empty' (by simp[World.size_alloc]) (g+1) _ 1 bK (by rw[World.size_alloc];omega)) _ _ _ rfl (HS.out _ (HB1.out.alloc HB1.out.size _)) (by simp[maxLen];omega) (by simp;omega) (by rw[World.size_alloc,World.size_alloc];omega) ?_;intro a6 c6 w6 hown6 RU;have hb6:=grown_below (aj _ _) (by rw[World.size_alloc];exact RU);have oQ:=HP1.out.kept hb6;have kH:=HB1.out.trans (hb6.mono HB1.out.size);have hz6:=hb6.size;rw[World.size_alloc] at hz6;clear RU hb6;rw[show([]:List UInt8).length+(q - p)=q - p by simp,List.nil_append] at hown6;rw[show([]:List UInt8).length+(q - p)=q - p by simp];obtain⟨g1,g2,g3,g4⟩:=oQ.own.cellAt (i:=k) (j:=0) (by rw[oQ.len];exact hlt) (by decide);rw[show k*1+0=k by omega] at g1 g2;have g1':w6.cell? ⟨g,k,none⟩=some (.slice none 0 0):=by { rw[g1,oQ.nil k (by rw[oQ.len];exact hlt) (Nat.le_refl _)];rfl };clear g1;have hgl:g<w6.heap.size:=by omega))
    have lU:=kH.setCell (p:=⟨g,k,none⟩) (by rw[HG.out];exact Nat.le_refl _) (.slice a6 (q - p) c6)
    exact⟨⟨k+1,_,hlt,by push_cast;rfl,oQ.put hlt (by rw[hret];exact hown6),lU,by rw[World.size_setCell];omega⟩,by simp[intOf];omega⟩
  ·obtain rfl:k=n:=by omega
   have OJ:=ah hP;have BP:=ah hB
   clear hP hB
   go_wp2
   go_ret
   exact OJ.out.ret BP.out _ (by rw[List.length_map];exact HN.out.symm) (fun i h=>by rw[List.getElem_map,HF.out i (by simpa using h)])
end
section
open Go.RowKit
theorem ak.aju{w:World}{v:Value}{l:List Nat}(h:ak w v 1 gY l)(hb:∀ x∈l,x<256):ak w v 1 bK (l.map UInt8.ofNat):=by
 obtain⟨a,b,o,cap,rfl,hl,hc,ha,hx⟩:=h
 refine⟨a,b,o,cap,by rw[List.length_map],by rw[List.length_map];exact hl,hc,ha.imp id (fun⟨h1,h2⟩=>⟨by rw[h1];rfl,h2⟩),fun i hi j u hu=>?_⟩
 rw[List.length_map] at hi
 rw[List.getElem_map] at hu
 have h1:(UInt8.ofNat l[i]).toNat=l[i]:=UInt8.toNat_ofNat_of_lt' (hb _ (List.getElem_mem hi))
 exact hx i hi j u (by simpa [bK,gY,h1] using hu)
theorem WA(w:World)(E:Nat)(xs:List UInt8)(fr:Nat×Nat)(hm:xs.length≤maxLen):ak (w.alloc (.cells (xs.flatMap bK).toArray E fr)) (.slice (some ⟨w.heap.size,0,none⟩) xs.length xs.length) 1 bK xs:=by
 refine⟨_,w.heap.size,0,xs.length,rfl,Nat.le_refl _,by simpa [maxLen] using hm,.inl rfl,fun i hi j u hu=>?_⟩
 rw[World.cell?_alloc_mark]
 have hj:j=0:=by
  cases j with
  | zero=>rfl
  | succ j=>simp[bK] at hu
 subst hj
 have h2:=tq (enc:=bK) (fun _=>rfl) xs i 0 hi (by decide)
 rw[List.getElem?_toArray,show 0+i*1+0=i*1+0 by omega,h2]
 exact hu
def JX(w:World):Prop:=∃ m,w.cell? ⟨0,0,none⟩=some (.int .i64 m)
theorem JX.kept{w w':World}(h:JX w)(hb:Below w.heap.size w w'):JX w':=by
 obtain⟨m,hm⟩:=h
 exact⟨m,(hb.cell (World.block_lt_of_cell? w _ hm)).trans hm⟩
end
section
open Go.RowKit
theorem agq(w:World)(hT:Tab w)(hM:JX w):Calls Tryz.prog 34 #[] w (aY w (.bool true)):=by
 have H1:=ah (fun(u:World) (hu:Below w.heap.size w u) (g:Nat) (hg:g<u.heap.size) (hs:ak u (.slice (some ⟨g,0,none⟩) 24 24) 1 bK kC)=>ajq▸aaz (g,0) 24 24 kC u hs hg (by
  obtain⟨k,hk⟩:=hM
  exact⟨k,(hu.cell (World.block_lt_of_cell? w _ hk)).trans hk⟩) (by have:=hu.size;omega) (by decide) trivial)
 have H2:=ah (fun(Rs:List (List UInt8×Vt)) (a:Option Addr) (cap:Nat) (u:World) (hR:(Rs.map fun x=>(x.1,x.2.tr))=sN) (hO:ak u (.slice a Rs.length cap) 9 jc Rs) (hL:∀ i (h:i<Rs.length),Lies u Rs[i].2) (hu:Below w.heap.size w u)=>(show Calls Tryz.prog 36 #[.slice a Rs.length cap,.int .i64 50] u (yM u (.inr BQ)) by
  have h1:=abq Rs a Rs.length cap 50 u hO hL (fun x hx=>aea (x.1,x.2.tr) (by rw[←hR];exact List.mem_map.2 ⟨x,hx,rfl⟩)) (hT.kept hu) (by decide) (by decide)
  rw[show Rs.map zo=sN from hR,ajr] at h1
  exact h1))
 have H3:=ah (fun(V:aG) (g:Nat) (u:World) (h:iJ u V BQ) (hs:ak u (.slice (some ⟨g,0,none⟩) 8 8) 1 bK kD)=>(show Calls Tryz.prog 61 #[.agg V.cells,.slice (some ⟨g,0,none⟩) 8 8] u (Wy u [(2,0,4),(3,4,5),(1,5,7)] 7 0) by
  have h1:=abt V BQ kD (some ⟨g,0,none⟩) 8 8 u h agp agn hs (by decide)
  rw[ajs] at h1
  exact h1))
 have hc1:=Go.Lib.run_convert_bytes_const (P:=Tryz.prog) w 35 5 (kC.flatMap bK).toArray 24 24 Tryz.underlying35 Tryz.underlying5
 have hs1:=WA w 5 kC ((kC.flatMap bK).toArray.size,(kC.flatMap bK).toArray.size+1) (by simp[maxLen,kC])
 have hb1:=aj w (.cells (kC.flatMap bK).toArray 5 ((kC.flatMap bK).toArray.size,(kC.flatMap bK).toArray.size+1))
 have HS2:=ah (fun(u:World)=>(⟨Go.Lib.run_convert_bytes_const (P:=Tryz.prog) u 35 5 (kD.flatMap bK).toArray 8 8 Tryz.underlying35 Tryz.underlying5,WA u 5 kD ((kD.flatMap bK).toArray.size,(kD.flatMap bK).toArray.size+1) (by simp[maxLen,kD]),aj u _⟩:_∧ak _ _ 1 bK kD∧Below u.heap.size u (u.alloc (.cells (kD.flatMap bK).toArray 5 ((kD.flatMap bK).toArray.size,(kD.flatMap bK).toArray.size+1)))))
 obtain⟨w1,hw1⟩:∃ w1,w.alloc (.cells (kC.flatMap bK).toArray 5 ((kC.flatMap bK).toArray.size,(kC.flatMap bK).toArray.size+1))=w1:=⟨_,rfl⟩
 have hsz1:w1.heap.size=w.heap.size+1:=by rw[←hw1,World.size_alloc]
 rw[hw1] at hc1 hs1 hb1
 have hc1':(convert 35 35 (.slice (some ⟨w.heap.size,0,none⟩) 24 24)).run Tryz.prog (w.alloc (.cells #[.int .u8 105,.int .u8 102,.int .u8 58,.int .u8 105,.int .u8 102,.int .u8 10,.int .u8 105,.int .u8 100,.int .u8 58,.int .u8 91,.int .u8 97,.int .u8 45,.int .u8 122,.int .u8 93,.int .u8 43,.int .u8 10,.int .u8 119,.int .u8 115,.int .u8 58,.int .u8 92,.int .u8 120,.int .u8 50,.int .u8 48,.int .u8 43] 5))=.ok (.slice (some ⟨w.heap.size,0,none⟩) 24 24) w1:=hc1
 clear hw1 hc1
 clear hT hM
 go_enter Tryz.func34,Tryz.ntmps34
 go_wp2_with (first | (go_at_call 35;go_must (refine(H1.out _ hb1 _ (by omega) hs1).mono ?_;rintro e w2 ⟨hb2,a2,c2,Rs,he,hR,hO,hL⟩;unfold dZ at he;subst he;have hB2:=hb1.trans (hb2.mono hb1.size);have HB2:=ah (hB2.alloc hB2.size (.cells #[.int .i64 0,.int .i64 0] 66));have HR:=ah hR;have HO:=ah ((hO.kept (aj w2 (.cells #[.int .i64 0,.int .i64 0] 66))).slice Aq);have HL:=ah (fun i (h:i<Rs.length)=>(hL i h).1.kept (aj w2 (.cells #[.int .i64 0,.int .i64 0] 66)));clear hR hO hL hB2)) | (go_at_call 36;go_must (refine(H2.out Rs _ _ _ HR.out HO.out HL.out HB2.out).mono ?_;rintro e w4 ⟨hb4,V,he,hrd,hof⟩;subst he;have hB4:=HB2.out.trans (hb4.mono HB2.out.size))) | (simp only[jH];refine wpList_store_row rfl 27 (.tmp 3) (.tmp 17) rfl w4.heap.size _ rfl rfl _ _ (Box.new w4 Vz.cells 27) (bQ _) (aG.sizes _ _) (aG.all _) ?_;rw[EH rfl];have wE:=Box.new w4 V.cells 27;have hl5:=aj w4 (.cells V.cells 27);have bF:=hB4.trans (hl5.mono hB4.size);have aed:=hrd _ (fun b _ h2=>hl5.block b h2);obtain⟨w5,hw5⟩:∃ w5,w4.alloc (.cells V.cells 27)=w5:=⟨_,rfl⟩;rw[hw5] at wE bF aed ⊢;have hc2:(convert 35 35 (.slice (some ⟨w5.heap.size,0,none⟩) 8 8)).run Tryz.prog (w5.alloc (.cells #[.int .u8 105,.int .u8 102,.int .u8 102,.int .u8 121,.int .u8 32,.int .u8 105,.int .u8 102,.int .u8 43] 5))=.ok (.slice (some ⟨w5.heap.size,0,none⟩) 8 8) (w5.alloc (.cells (kD.flatMap bK).toArray 5 (8,9))):=(HS2.out w5).1;have hs6:=(HS2.out w5).2.1;have hb6:=(HS2.out w5).2.2;obtain⟨w6,hw6⟩:∃ w6,w5.alloc (.cells (kD.flatMap bK).toArray 5 (8,9))=w6:=⟨_,rfl⟩;change ak (w5.alloc (.cells (kD.flatMap bK).toArray 5 (8,9))) (.slice (some ⟨w5.heap.size,0,none⟩) 8 8) 1 bK kD at hs6;change Below w5.heap.size w5 (w5.alloc (.cells (kD.flatMap bK).toArray 5 (8,9))) at hb6;rw[hw6] at hs6 hb6 hc2;have ajv:=aed.kept hb6;have kH:=bF.trans (hb6.mono bF.size);have zh:=ah ajv;have HS6:=ah hs6;clear hrd aed ajv hs6 hw6 hw5 hl5 hof HS2 H1 H2) | (refine bM (by rfl) 27 _ rfl w4.heap.size rfl _ _ _ _ wE Tryz.underlying27 rfl (bQ _) ?_) | (go_at_call 61;go_must (refine(H3.out V _ _ zh.out HS6.out).mono ?_;rintro e w7 ⟨a7,c7,rfl,iI,hb7⟩;have lU:=kH.trans (hb7.mono kH.size);obtain⟨_,_,_,g7,aqA,ajw,ajx⟩:=iI.open;obtain rfl:=ajw 0 (by decide);obtain⟨_,dn,_,FV⟩:=ajx (by decide);have p0:w7.cell? ⟨g7,0,none⟩=some (.int .i64 2):=(dn.cell 0).trans (FV 0 (by decide) 0 (by decide));have p1:w7.cell? ⟨g7,1,none⟩=some (.int .i64 0):=(dn.cell 1).trans (FV 0 (by decide) 1 (by decide));have p2:w7.cell? ⟨g7,2,none⟩=some (.int .i64 4):=(dn.cell 2).trans (FV 0 (by decide) 2 (by decide));have p6:w7.cell? ⟨g7,6,none⟩=some (.int .i64 1):=(dn.cell 6).trans (FV 2 (by decide) 0 (by decide));have p7:w7.cell? ⟨g7,7,none⟩=some (.int .i64 5):=(dn.cell 7).trans (FV 2 (by decide) 1 (by decide));have p8:w7.cell? ⟨g7,8,none⟩=some (.int .i64 7):=(dn.cell 8).trans (FV 2 (by decide) 2 (by decide));have l7:=dn.lt;clear ajw ajx FV)))
 go_ret
 exact⟨rfl,lU⟩
end
end Go.Proofs.YtengfapcaaacaaaGreatDoor
