/- The texts of B35, in few letters (mini.py). -/
import Derived.Test.YtaoinbjjolikhaaGreatDoorM34
set_option linter.unusedVariables false
set_option linter.unusedSimpArgs false
set_option maxRecDepth 20000
set_option maxHeartbeats 6400000
namespace Go.Proofs.YtaoinbjjolikhaaGreatDoor
section
open Go.RowKit
theorem Qz{P:Program}{o:Oper}{a:Act}{w:World}(ty:TypeId)(x:Operand)(ho:o.op=.load ty x)(b off:Nat)(hx:a.eval x=.pointer (some ⟨b,off,none⟩)){cs:Array Value}{d:TypeDesc}(hc:w.rangeAt b off cs.toList)
  (hu:P.underlying ty=some d) (hd:d.isRow=true) (hi:(P.info? ty).map (·.size)=some cs.toList.length):(execOp a.eval o).run P w=.ok (.value (.agg cs)) w:=by
 have:=UJ ty x ho b off hx hc hu hd hi
 rwa[Array.toArray_toList] at this
theorem ND(N:Nf)(l:List Nat):iM N l=match oN N l 65 with | []=>0 | k::_=>(k:Int):=by
 unfold iM oN
 have h:=List.head?_filter (p:=fun k=>decide (0<k)&&lH N l k) (l:=List.range 65)
 unfold lH at h ⊢
 rw[←h]
 cases (List.range 65).filter (fun k=>decide (0<k)&&l.any fun s=>N.accept.getD s 0==k) <;> rfl
theorem NG(N:Nf)(most:Nat)(low:List Nat):∀ (f i:Nat) (sets:List (List Nat)) (next:List (List Int)) (r:List (List Nat)×List (List Int)),jU N most low f i sets next=some r→sets.length≤most→r.1.length≤most
 | 0,_,_,_,r,h,hs=>by rw[jU] at h;obtain rfl:=Option.some.inj h;exact hs
 | f+1,i,sets,next,r,h,hs=>by
  by_cases hi:i<sets.length
  ·rw[Qg N most low f i sets next hi] at h
   cases hr:rowP N most (sets.getD i []) low sets [] with
   | none=>rw[hr] at h;cases h
   | some q =>
    rw[hr] at h
    exact NG N most low f (i+1) q.1 _ r h ((Ur N most _ low sets [] q hr).2 hs)
  ·rw[Nw N most low (f+1) i sets next hi] at h
   obtain rfl:=Option.some.inj h
   exact hs
theorem Jt(V:aG)(a:Option Addr)(n c:Nat):V.cells.setIfInBounds 258 (.slice a n c)=aG.cells { V with la:=a,ln:=n,lc:=c }:=by
 refine UK (by rw[Array.size_setIfInBounds,aG.size]) (fun i h=>?_) ?_ ?_ ?_ ?_
 ·rw[Array.getElem?_setIfInBounds_ne (by omega),V.Gx i h]
 ·rw[Array.getElem?_setIfInBounds_ne (by omega),V.Gy]
 ·rw[Array.getElem?_setIfInBounds_ne (by omega),V.AV]
 ·rw[Array.getElem?_setIfInBounds,if_pos rfl,if_pos (by rw[aG.size];decide)]
 ·rw[Array.getElem?_setIfInBounds_ne (by omega),V.Gz]
theorem ak.slV{w:World}{v:Value}{xs:List Jg}(h:ak w v 1 yx xs):ak w v 1 acH (xs.map fun x:Jg=>Value.slice x.1 x.2.1 x.2.2):=by
 obtain⟨a,b,o,cap,rfl,hl,hc,ha,hx⟩:=h
 refine⟨a,b,o,cap,by rw[List.length_map],by rw[List.length_map];exact hl,hc,ha.imp id (fun⟨h1,h2⟩=>⟨by rw[h1];rfl,h2⟩),fun i hi j u hu=>?_⟩
 rw[List.length_map] at hi
 rw[List.getElem_map] at hu
 exact hx i hi j u hu
theorem anh(P:Nat→Option Addr→Nat→World→Prop){T:Nat→Option Addr→Nat→World→Prop}{G:Prop}(h1:(∀ tb ma mc W,P tb ma mc W→T tb ma mc W)→G)(h2:∀ tb ma mc W,P tb ma mc W→T tb ma mc W):G:=h1 h2
def rX(f:Nat→Nat)(n:Nat)(na:Option Addr)(nn nc:Nat)(ma:Option Addr)(mn mc:Nat):aG:=⟨f,(n:Nat),na,nn,nc,none,0,0,ma,mn,mc⟩
def ako(w3:World)(C:Option Addr→Nat→aG)(names:List (List UInt8))(tb:Nat)(ma:Option Addr)(mc:Nat)(W:World):Prop :=
 Below w3.heap.size w3 W∧w3.heap.size≤tb∧Box W tb (C ma mc).cells 27∧Own W w3.heap.size 9 1 nO (.slice ma names.length mc) names
theorem abH(N:Nf)(V:Y3)(names:List (List UInt8))(na:Option Addr)(nc most:Nat)(w:World)(h:tH w N V)(hw:N.wf)(h0:0<N.states)(hs:N.states≤65536)(hn:ak w (.slice na names.length nc) 1 nO names)(hnl:∀ x∈names,x.length≤9223372036854775807)
  (hlk:N.links.length≤1099511627776) (he:N.edges.length≤65536) (hm1:1≤most) (hm2:most≤65536) (hT:Tab w) (hyes:yQ N names=true) (akp:names.length≤1099511627776)
  (sets:List (List Nat)) (next:List (List Int)) (hok:jU N most (iy N) (most+1) 0 [fU N [0]] []=some (sets,next)) :
  Calls Tryz.prog 55 #[.agg (dK N V),.slice na names.length nc,.int .i64 most] w (yR w (.inr ⟨bD (RL (N.edges.map (·.2.1))),((iy N).length:Nat),next,sets.map (iM N),names⟩)):=by
 have hB0:=aj w (.cells (dK N V) 107)
 have hbx:=Box.new w (dK N V) 107
 have hB1:=hB0.alloc hB0.size (.cells Vz.cells 27)
 have hby:Box ((w.alloc (.cells (dK N V) 107)).alloc (.cells Vz.cells 27)) (w.heap.size+1) Vz.cells 27:=Box.new' (World.size_alloc _ _).symm _ _
 have dJ:=hbx.kept (aj (w.alloc (.cells (dK N V) 107)) (.cells Vz.cells 27))
 have HN:=ah (fun u hu=>hyes▸Hr N V names na nc u (h.kept hu) hw h0 hs (hn.kept hu) hnl)
 have HO:=ah (fun u hu=>by
  have h1:=abv N V most u (h.kept hu) hw h0 hs hlk he hm1 hm2 (hT.kept hu)
  unfold QM at h1
  rw[hok] at h1
  exact h1)
 have uU:=ah hn
 have hsm:=NG N most (iy N) _ _ _ _ _ hok hm1
 dsimp only at hsm
 obtain⟨vl,ve,va⟩:=V
 obtain⟨la,lc,hvl⟩:=h.li.form
 obtain⟨ea,ec,mD⟩:=h.ed.form
 obtain⟨aa,ac,hva⟩:=h.ac.form
 dsimp only at hvl mD hva
 subst hvl
 subst mD
 subst hva
 have hsz:Vz.cells.size=260:=aG.size _
 clear h hw hn hnl hyes hok hT
 unfold dK at *
 dsimp only at *
 generalize hW1:((w.alloc (.cells #[.int .i64 N.states,.int .i64 0,.slice la N.links.length lc,.slice ea N.edges.length ec,.slice aa N.accept.length ac] 107)).alloc (.cells Vz.cells 27))=W1 at *
 have HW1:=ah hW1
 have x0:W1.cell? ⟨w.heap.size,0,none⟩=some (.int .i64 N.states):=dJ.cell 0
 have x1:W1.cell? ⟨w.heap.size,1,none⟩=some (.int .i64 0):=dJ.cell 1
 have x2:W1.cell? ⟨w.heap.size,2,none⟩=some (.slice la N.links.length lc):=dJ.cell 2
 have x3:W1.cell? ⟨w.heap.size,3,none⟩=some (.slice ea N.edges.length ec):=dJ.cell 3
 have x4:W1.cell? ⟨w.heap.size,4,none⟩=some (.slice aa N.accept.length ac):=dJ.cell 4
 have lx:=dJ.lt
 clear hW1 hbx hB0
 go_enter Tryz.func55,Tryz.ntmps55
 go_wp2_with (first | (with_reducible refine Halt.go (p:=wpList _ _ _ ({ dst:=some 15,op:=_,type:=_,pos:=_,after:=_,guard:=_ }::_) _ _) ?_) | fail)
 simp only[jM,HW1.out]
 unfold Halt
 go_wp2_with (first | (go_at_call 82;go_must (refine(HN.out _ hB1).mono ?_;rintro e w2 ⟨rfl,hb2⟩;have hy2:=hby.kept hb2;have hx2:=dJ.kept hb2;have hB2:=hB1.trans (hb2.mono hB1.size);have z0:w2.cell? ⟨w.heap.size,0,none⟩=some (.int .i64 N.states):=hx2.cell 0;have z1:w2.cell? ⟨w.heap.size,1,none⟩=some (.int .i64 0):=hx2.cell 1;have z2:w2.cell? ⟨w.heap.size,2,none⟩=some (.slice la N.links.length lc):=hx2.cell 2;have z3:w2.cell? ⟨w.heap.size,3,none⟩=some (.slice ea N.edges.length ec):=hx2.cell 3;have z4:w2.cell? ⟨w.heap.size,4,none⟩=some (.slice aa N.accept.length ac):=hx2.cell 4;have lz:=hx2.lt)) | (go_at_call 83;go_must (refine(HO.out w2 hB2).mono ?_;rintro e w3 ⟨hb3,bp,base,inn,mb,B,kv,lb,eb,kl,ke,va,rfl,Bd,hlo,ajn,ajo,hMa,ajp,qH⟩;have hy3:=hy2.kept hb3)))
 have hB3:=hB2.trans (hb3.mono hB2.size)
 obtain⟨rY,aef,ajq,ajr⟩:=Bd.nexts
 obtain⟨Bh,Bj,P5⟩:=aef.form
 obtain⟨loa,loc,aeg⟩:∃ a c,B.lo=.slice a (iy N).length c:=by obtain⟨a,_,_,c,hv,_⟩:=hlo.1;exact⟨a,c,hv⟩
 have hDr:Below w3.heap.size w3 w3.drew:=(Below.refl _ _).drew
 have HF:Hid (∀ u,Later w3.drew u→Box u bp (dI B) 148∧u.cell? ⟨bp,258,none⟩=some (.slice loa (iy N).length loc)∧u.cell? ⟨bp,261,none⟩=some (.slice Bh rY.length Bj)∧Calls Tryz.prog 46 #[.slice na names.length nc] u (jh u 9 1 nO names)∧Below w3.heap.size w3 u):=ah fun u hu=>by
  have h1:Below w3.heap.size w3 u:=hDr.trans (hu.mono hDr.size)
  have hx:=Bd.box.kept h1
  refine⟨hx,?_,?_,VL names na names.length nc u (uU.out.kept ((hB3.trans (h1.mono hB3.size)))) akp,h1⟩
  ·rw[hx.cell,uY,aeg]
  ·rw[hx.cell,vg,P5]
 have hlow:(iy N).length≤256:=jX _ _
 have HBU:=ah Bd;have HLO:=ah hlo;have HMA:=ah hMa;have HY3:=ah hy3;have HB3:=ah hB3;have ani:=ah aef;have anj:=ah ajr;have YH:=ah qH;have ank:=ah ajp;have GY:=ah ajn;have Si:=ah ajo;have wV:=ah ajq;have HLV:=ah aeg;have HNV:=ah P5
 clear qH ajp ajn ajo ajq aeg P5 hDr Bd hlo hMa hy3 hB3 aef ajr HN HO x0 x1 x2 x3 x4 z0 z1 z2 z3 z4
 refine aA (R:=Later) 17 (by kernel_rfl) ?_
 refine pl [0,1,2] ?_
 repeat
  refine dB ?_ rfl (fun w1 hl=>?_) ?_
  rotate_left
  ·skip;go_simp;try with_reducible rfl
  simp only[eA,eB,eC,Act.put,eD,eE,eF]
 refine bP ?_
 refine jB 3 (.agg (aY B.of)) rfl (fun w1 hl=>?_) ?_
 ·exact Qz 22 _ rfl bp 2 rfl (HF.out w1 hl).1.Xc Tryz.underlying22 rfl (by rw[Array.length_toList,bf];rfl)
 simp only[List.getElem_toArray,List.getElem_cons_zero,List.getElem_cons_succ,Act.put,List.setIfInBounds_toArray,List.set_cons_zero,List.set_cons_succ]
 refine pl [4,5,6,7,8,9,10,11,12,13] ?_
 repeat
  refine dB ?_ rfl (fun w1 hl=>?_) ?_
  rotate_left
  ·obtain⟨hX,q1,q2,_,_⟩:=HF.out w1 hl;have lX:=hX.lt;go_simp;try with_reducible rfl
  simp only[eA,eB,eC,Act.put,eD,eE,eF]
 refine bP ?_
 refine anh (ako w3 (fun ma mc=>rX B.of (iy N).length Bh rY.length Bj ma names.length mc) names) (T:=?T) (fun key=>?main) ?rest
 case main =>
  have l0:Later w3.drew w3.drew:=Later.refl _
  refine Ib (t:=17) (i:=14) (j:=16) (by kernel_rfl) rfl rfl (fun w1 hl K hK=>?_) (fun w1 hl K hK=>?_)
  ·have hs1:=(HF.out w1 (Later.trans _ _ _ l0 hl)).2.2.2.2.size
   go_simp
   refine(HF.out w1 (Later.trans _ _ _ l0 hl)).2.2.2.1.mono ?_
   rintro e wq ⟨ma,mc,rfl,hown,hbq⟩
   refine hK.out _ _ (fun _=>hbq) ?_
   clear hK K
   replace l0:=Later.trans _ _ _ (Later.trans _ _ _ l0 hl) hbq
   have hwb:w3.heap.size≤w1.heap.size:=hs1
   have l1:=l0
   refine jB 15 (.agg (rX B.of (iy N).length Bh rY.length Bj ma names.length mc).cells) rfl (fun w1 hl=>?_) ?_
   ·exact Bg rfl (by rfl) (Qk B.of ((iy N).length:Nat) Bh ma rY.length Bj names.length mc)
   simp only[List.getElem_toArray,List.getElem_cons_zero,List.getElem_cons_succ,Act.put,List.setIfInBounds_toArray,List.set_cons_zero,List.set_cons_succ]
   refine aW (t:=17) (i:=16) (by kernel_rfl) rfl (fun w1 hl K hK=>?_)
   have hown:=hown.kept hl
   go_simp
   simp only[jM]
   refine hK.out _ _ (fun _=>aj _ _) ?_
   clear hK K
   have hzb:=Box.new w1 Vz.cells 27
   have hzl:=aj w1 (.cells Vz.cells 27)
   replace l0:=Later.trans _ _ _ (Later.trans _ _ _ l0 hl) hzl
   have htb:w3.heap.size≤w1.heap.size:=by have h1:=(HF.out w1 (Later.trans _ _ _ l1 hl)).2.2.2.2.size;exact h1
   have hne:∀ g,(Value.slice ma names.length mc).ownBlock=some g→g≠w1.heap.size:=fun g hg=>by have:=(hown.blk hg).2;omega
   replace hown:=hown.kept hzl
   generalize (w1.alloc (.cells Vz.cells 27))=wz at *
   generalize w1.heap.size=tb at *
   refine aW (t:=17) (i:=17) (by kernel_rfl) rfl (fun w1 hl K hK=>?_)
   have UL:=hzb.kept hl
   have hown2:=hown.kept hl
   have l2:=Later.trans _ _ _ l0 hl
   refine gK (by rfl) ?_
   refine wp_store_row 27 _ _ rfl tb _ rfl rfl _ _ UL (aQ _) (aG.sizes _ _) (aG.all _) ?_
   refine hK.out _ _ (fun h=>absurd rfl h) ?_
   clear hK K
   have hb2:=(HF.out w1 l2).2.2.2.2
   have hfin:=UL.setRow (rX B.of (iy N).length Bh rY.length Bj ma names.length mc).cells
   have hown3:Own (w1.setRow tb (rX B.of (iy N).length Bh rY.length Bj ma names.length mc).cells) _ 9 1 nO (.slice ma names.length mc) names:=hown2.same fun g hg=>setRow_other w1 tb g _ (hne g (by rw[hg]))
   have hbf:=below_setRow hb2 htb (rX B.of (iy N).length Bh rY.length Bj ma names.length mc).cells
   refine aI (by kernel_rfl) (fun w1 hl=>?_) _
   exact key tb ma mc w1 ⟨hbf.trans (hl.mono hbf.size),htb,hfin.kept hl,(hown3.kept hl).mono hwb⟩
  ·have l1:=l0
   go_simp
   simp only[jM]
   refine hK.out _ _ (fun _=>aj _ _) ?_
   clear hK K
   have hzb:=Box.new w1 Vz.cells 27
   have hzl:=aj w1 (.cells Vz.cells 27)
   replace l0:=Later.trans _ _ _ (Later.trans _ _ _ l0 hl) hzl
   have htb:w3.heap.size≤w1.heap.size:=by have h1:=(HF.out w1 (Later.trans _ _ _ l1 hl)).2.2.2.2.size;exact h1
   generalize (w1.alloc (.cells Vz.cells 27))=wz at *
   generalize w1.heap.size=tb at *
   refine aW (t:=17) (i:=14) (by kernel_rfl) rfl (fun w1 hl K hK=>?_)
   have hs1:w3.heap.size≤w1.heap.size:=(HF.out w1 (Later.trans _ _ _ l0 hl)).2.2.2.2.size
   have hzb:=hzb.kept hl
   have hzs:=hzb.lt
   go_simp
   refine(HF.out w1 (Later.trans _ _ _ l0 hl)).2.2.2.1.mono ?_
   rintro e wq ⟨ma,mc,rfl,hown,hbq⟩
   refine hK.out _ _ (fun _=>hbq) ?_
   clear hK K
   replace l0:=Later.trans _ _ _ (Later.trans _ _ _ l0 hl) hbq
   have hzb:=hzb.kept hbq
   have hwb:w3.heap.size≤w1.heap.size:=hs1
   have hne:∀ g,(Value.slice ma names.length mc).ownBlock=some g→g≠tb:=fun g hg=>by have:=(hown.blk hg).1;omega
   refine jB 15 (.agg (rX B.of (iy N).length Bh rY.length Bj ma names.length mc).cells) rfl (fun w1 hl=>?_) ?_
   ·exact Bg rfl (by rfl) (Qk B.of ((iy N).length:Nat) Bh ma rY.length Bj names.length mc)
   simp only[List.getElem_toArray,List.getElem_cons_zero,List.getElem_cons_succ,Act.put,List.setIfInBounds_toArray,List.set_cons_zero,List.set_cons_succ]
   refine aW (t:=17) (i:=17) (by kernel_rfl) rfl (fun w1 hl K hK=>?_)
   have UL:=hzb.kept hl
   have hown2:=hown.kept hl
   have l2:=Later.trans _ _ _ l0 hl
   refine gK (by rfl) ?_
   refine wp_store_row 27 _ _ rfl tb _ rfl rfl _ _ UL (aQ _) (aG.sizes _ _) (aG.all _) ?_
   refine hK.out _ _ (fun h=>absurd rfl h) ?_
   clear hK K
   have hb2:=(HF.out w1 l2).2.2.2.2
   have hfin:=UL.setRow (rX B.of (iy N).length Bh rY.length Bj ma names.length mc).cells
   have hown3:Own (w1.setRow tb (rX B.of (iy N).length Bh rY.length Bj ma names.length mc).cells) _ 9 1 nO (.slice ma names.length mc) names:=hown2.same fun g hg=>setRow_other w1 tb g _ (hne g (by rw[hg]))
   have hbf:=below_setRow hb2 htb (rX B.of (iy N).length Bh rY.length Bj ma names.length mc).cells
   refine aI (by kernel_rfl) (fun w1 hl=>?_) _
   exact key tb ma mc w1 ⟨hbf.trans (hl.mono hbf.size),htb,hfin.kept hl,(hown3.kept hl).mono hwb⟩
 case rest =>
  intro tb ma mc W hP
  obtain⟨hBW,htb,hbox,abI⟩:=hP
  have Bd:=HBU.out.kept hBW
  obtain⟨pz,hro,hrl,hre⟩:=HBU.out.rows
  obtain⟨sa,sc,hsv⟩:=hro.form
  have x5:W.cell? ⟨bp,260,none⟩=some (.slice sa pz.length sc):=by rw[Bd.box.cell,kF,hsv]
  have hbl:=Bd.box.lt
  have hbt:=hbox.lt
  rw[hrl] at x5
  rw[hsv] at hro
  obtain⟨m,hm⟩:∃ m,sets.length=m:=⟨_,rfl⟩
  have HMS:=ah hm;have ajt:=ah hbox;have aeh:=ah abI;have E8:=ah hro;have HRE:=ah hre;have zA:=ah hrl;have iG:=ah hBW;have HIS:=ah Bd.BR
  have hsc:sets.length≤sc:=by have:=hro.open.2.1;omega
  have hsc2:=hro.open.2.2.1
  rw[hm] at x5 hsc hsm
  clear hbox abI hro hre hrl hBW Bd hsv hm
  go_wp2
  clear x5
  go_loopw [51] (fun v wr=>∃ (k:Nat) (la':Option Addr) (Ju:Nat),k≤m∧v=.int .i64 k∧Own wr W.heap.size 3 1 encI (.slice la' k Ju) ((sets.take k).map (iM N))∧Box wr tb (aG.cells { rX B.of (iy N).length Bh rY.length Bj ma names.length mc with la:=la',ln:=k,lc:=Ju }) 27∧dL W.heap.size tb W wr) (fun v _=>m - (intOf v).toNat)
  case atStart=>exact⟨0,none,0,Nat.zero_le _,rfl,Own.nil _ _ _ _ _,ajt.out,dL.refl _ _ _⟩
  case round =>
   obtain⟨k,la',Ju,hk,rfl,hown,hbx,rW⟩:=hrel
   have hBr:Below w3.heap.size w3 wr:=rW.toBelow iG.out (iG.out.size) htb
   by_cases hlt:k<m
   ·have hks:k<sets.length:=by rw[HMS.out];exact hlt
    have hkr:k<pz.length:=by rw[zA.out];exact hks
    obtain⟨ra,rc',hrk,hsi⟩:=HRE.out k hkr hks
    have hO:=E8.out.kept hBr
    obtain⟨_,_,_,g,cur,hga,hgx⟩:=hO.open
    obtain rfl:=hga k hkr
    obtain⟨_,hgb,_,hgc⟩:=hgx (by omega)
    have c0:wr.cell? ⟨g,k,none⟩=some (.slice ra sets[k].length rc'):=by
     have h4:=hgc k hkr 0 (by decide)
     rw[show k*1+0=k by omega,hrk] at h4
     rw[hgb.cell,h4];rfl
    have hgl:=hgb.lt
    have hbox:=(HBU.out.kept hBr).box
    have z0:wr.cell? ⟨bp,0,none⟩=some (.pointer (some ⟨B.m,0,none⟩)):=by rw[hbox.cell,ku]
    have am6:=hbox.lt
    have hset:=HIS.out _ (List.getElem_mem hks)
    have hmem:∀ x∈sets[k],x<N.states:=fun x hx=>by rw[hset.set.2] at hx;rw[←Si.out];exact TS hx
    have hlab:=abh B.m lb eb kl ke va N ra sets[k].length rc' sets[k] wr (HMA.out.kept hBr) ((hsi.1.kept hBr)) hmem
    have hll:=ND N sets[k]
    have htk:(sets.take (k+1)).map (iM N)=(sets.take k).map (iM N)++[iM N sets[k]]:=by rw[List.take_succ_eq_append_getElem hks,List.map_append];rfl
    have hlen:((sets.take k).map (iM N)).length=k:=by rw[List.length_map,List.length_take];omega
    have aqx:=Jk N sets[k] 65
    generalize (sets.take k).map (iM N)=ys at *
    generalize sets[k]=S at *
    generalize oN N S 65=L at *
    generalize iM N S=lab at *
    have htl:=hbx.lt
    have y8:wr.cell? ⟨tb,258,none⟩=some (.slice la' k Ju):=by rw[hbx.cell,aG.nC]
    have Y1:=ah hlab;have vM:=ah htk;have HOW:=ah hown;have Cc:=ah hbx;have DW:=ah rW;have uO:=ah hlen
    have hki:(k:Int)<(m:Int):=by omega
    have hk0:(0:Int)≤(k:Int):=by omega
    have hkm:k≤9223372036854775806:=by omega
    clear hlab htk hown hbx rW hBr hO hgc hgx hga hgb hbox hset hmem hsi hrk hlen y8
    cases L with
    | nil =>
     dsimp only at hll
     subst hll
     go_wp2_with (first | (go_at_call 84;go_must (refine Y1.out.mono ?_;rintro e w5 ⟨la5,lc5,rfl,BZ,hb5⟩;have wJ:=Cc.out.kept hb5;have y8:w5.cell? ⟨tb,258,none⟩=some (.slice la' k Ju):=by { rw[wJ.cell,aG.nC] };have hl5:=wJ.lt;have hs5:=hb5.size;have zy:=(HOW.out.kept hb5).kept (aj w5 (.cells #[.int .i64 0] 3));have OJ:=wJ.kept (aj w5 (.cells #[.int .i64 0] 3));have hyl:=uO.out)) | (at_builtin;go_must (refine eU rfl _ _ 24 rfl jl uP rfl zy ⟨w5.heap.size,0,none⟩ 1 (0) rfl (dA w5 [.int .i64 (0)] _) (by simp only[maxLen];omega) (by omega) (by rw[World.size_alloc];have:=DW.out.size;omega) ?_;intro a7 c7 w7 iF cZ;have wo:=OJ.grown zy cZ hbt;have y9:w7.cell? ⟨tb,258,none⟩=some (.slice la' k Ju):=by { rw[wo.cell,aG.nC] };have f9:=wo.free 258;have l9:=wo.lt)))
     rw[uO.out] at iF
     have hfin:=wo.set 258 (.slice a7 (k+1) c7)
     rw[Jt] at hfin
     have hk1:dL W.heap.size tb W (w5.alloc (.cells #[.int .i64 (0)] 3)):=(DW.out.trans (dL.below (mb:=tb) hb5 DW.out.size)).trans (dL.below (mb:=tb) (aj _ _) (by have:=DW.out.size;omega))
     have hk2:=hk1.grown zy cZ (by rw[World.size_alloc];have:=DW.out.size;omega)
     have hk3:dL W.heap.size tb W (w7.setCell ⟨tb,258,none⟩ (.slice a7 (k+1) c7)):=hk2.trans ⟨rfl,rfl,rfl,Nat.le_of_eq (World.size_setCell _ _ _).symm,fun b _ hn=>heap_setCell_other _ _ _ _ hn⟩
     refine⟨⟨k+1,a7,c7,hlt,by push_cast;rfl,?_,?_,?_⟩,by simp[intOf];omega⟩
     ·rw[vM.out];exact iF.other _ _ hbt
     ·exact hfin
     ·exact hk3
    | cons z L =>
     dsimp only at hll
     subst hll
     have hpos:decide ((0:Int)<(((z::L).length:Nat):Int))=true:=by simp
     obtain⟨nl,hnl⟩:∃ nl,(z::L).length=nl:=⟨_,rfl⟩
     have adL:0<nl:=by rw[←hnl];simp
     have hn0:(0:Int)<(nl:Int):=by omega
     go_wp2_with (first | (go_at_call 84;go_must (refine Y1.out.mono ?_;rintro e w5 ⟨la5,lc5,rfl,BZ,hb5⟩;have wJ:=Cc.out.kept hb5;have y8:w5.cell? ⟨tb,258,none⟩=some (.slice la' k Ju):=by { rw[wJ.cell,aG.nC] };have hl5:=wJ.lt;obtain⟨_,_,_,g5,anl,anm⟩:=BZ.ML;obtain⟨rfl,aqy⟩:=anl 0 (by simp);have q0:w5.cell? ⟨g5,0,none⟩=some (.int .i64 (z:Nat)):=anm w5 0 (by simp) rfl;have hs5:=hb5.size;have zy:=(HOW.out.kept hb5).kept (aj w5 (.cells #[.int .i64 (z:Nat)] 3));have OJ:=wJ.kept (aj w5 (.cells #[.int .i64 (z:Nat)] 3));have hyl:=uO.out)) | (at_builtin;go_must (refine eU rfl _ _ 24 rfl jl uP rfl zy ⟨w5.heap.size,0,none⟩ 1 ((z:Nat)) rfl (dA w5 [.int .i64 ((z:Nat))] _) (by simp only[maxLen];omega) (by omega) (by rw[World.size_alloc];have:=DW.out.size;omega) ?_;intro a7 c7 w7 iF cZ;have wo:=OJ.grown zy cZ hbt;have y9:w7.cell? ⟨tb,258,none⟩=some (.slice la' k Ju):=by { rw[wo.cell,aG.nC] };have f9:=wo.free 258;have l9:=wo.lt)))
     rw[uO.out] at iF
     have hfin:=wo.set 258 (.slice a7 (k+1) c7)
     rw[Jt] at hfin
     have hk1:dL W.heap.size tb W (w5.alloc (.cells #[.int .i64 (((z:Nat):Int))] 3)):=(DW.out.trans (dL.below (mb:=tb) hb5 DW.out.size)).trans (dL.below (mb:=tb) (aj _ _) (by have:=DW.out.size;omega))
     have hk2:=hk1.grown zy cZ (by rw[World.size_alloc];have:=DW.out.size;omega)
     have hk3:dL W.heap.size tb W (w7.setCell ⟨tb,258,none⟩ (.slice a7 (k+1) c7)):=hk2.trans ⟨rfl,rfl,rfl,Nat.le_of_eq (World.size_setCell _ _ _).symm,fun b _ hn=>heap_setCell_other _ _ _ _ hn⟩
     refine⟨⟨k+1,a7,c7,hlt,by push_cast;rfl,?_,?_,?_⟩,by simp[intOf];omega⟩
     ·rw[vM.out];exact iF.other _ _ hbt
     ·exact hfin
     ·exact hk3
   ·obtain rfl:k=m:=by omega
    rw[List.take_of_length_le (by rw[HMS.out];exact Nat.le_refl _)] at hown
    have hR0:=HY3.out.kept hBr
    have hres:=hR0.lt
    obtain⟨V',hV'⟩:∃ V':aG,{ rX B.of (iy N).length Bh rY.length Bj ma names.length mc with la:=la',ln:=k,lc:=Ju }=V':=⟨_,rfl⟩
    rw[hV'] at hbx
    have aju:Below w.heap.size w wr:=HB3.out.trans (hBr.mono HB3.out.size)
    have hs3:=HY3.out.lt
    obtain⟨wf,hwf⟩:∃ wf,wr.setRow (w.heap.size+1) V'.cells=wf:=⟨_,rfl⟩
    have hWs:=iG.out.size
    have hwz:wf.heap.size=wr.heap.size:=by rw[←hwf];exact size_setRow _ _ _
    have aqz:=hBr.size
    have hsz3:=HB3.out.size
    have hrd:(∀ u:World,(∀ b,w.heap.size≤b→b<wf.heap.size→u.heap[b]?=wf.heap[b]?)→dS u V' ⟨bD (RL (N.edges.map (·.2.1))),((iy N).length:Nat),next,sets.map (iM N),names⟩)∧V'.of=bD (RL (N.edges.map (·.2.1))):=by
     refine⟨fun u hu=>?_,by rw[←hV'];exact GY.out⟩
     have hso:∀ b,w.heap.size≤b→b<wr.heap.size→b≠w.heap.size+1→u.heap[b]?=wr.heap[b]?:=fun b hb0 hb1 hne=>by rw[hu b hb0 (by rw[hwz];exact hb1),←hwf];exact setRow_other wr _ b _ hne
     have hsame:∀ b,w.heap.size≤b→b<w3.heap.size→b≠w.heap.size+1→u.heap[b]?=w3.heap[b]?:=fun b hb0 hb hne=>(hso b hb0 (by omega) hne).trans (hBr.block b hb)
     clear hwf hu
     subst hV'
     refine⟨GY.out,rfl,?_,?_,rY.map (fun x:Jg=>Value.slice x.1 x.2.1 x.2.2),?_,?_,?_⟩
     ·have h1:Own u W.heap.size 3 1 encI (.slice la' k Ju) (sets.map (iM N)):=hown.same fun g hg=>hso g (by have h2:=(hown.blk hg).1;omega) (hown.blk hg).2 (by have h2:=(hown.blk hg).1;omega)
      exact h1.slice uP
     ·have h1:Own u w3.heap.size 9 1 nO (.slice ma names.length mc) names:=aeh.out.same fun g hg=>by
       obtain⟨h2,h3⟩:=aeh.out.blk hg
       rw[hso g (by omega) (by have:=rW.size;omega) (by omega)]
       refine rW.block g h3 fun e=>?_
       obtain⟨_,c2,b2⟩:=aeh.out.block g hg
       rw[e] at b2
       exact absurd (b2.lS ajt.out) (by decide)
      exact h1.slice Dx
     ·have h1:=ani.out
      rw[HNV.out] at h1
      have h2:Own u base 24 1 yx (.slice Bh rY.length Bj) rY:=h1.same fun g hg=>hsame g (by have h2:=(h1.blk hg).1;have:=ank.out;have:=hb2.size;omega) (h1.blk hg).2 fun e=>by
       obtain⟨_,c2,b2⟩:=h1.block g hg
       rw[e] at b2
       exact absurd (b2.lS HY3.out) (by decide)
      exact(h2.slice AZ).slV
     ·rw[List.length_map];exact wV.out
     ·intro i h1 h2
      rw[List.length_map] at h1
      obtain⟨a,c,m1,m2⟩:=anj.out i h1 h2
      refine⟨a,c,by rw[List.getElem_map,m1],m2.1.MR fun ad e hlt=>hsame _ (by have h3:=YH.out ad.block (m2.2 ad _ _ (by rw[e]));have h4:=hy2.lt;omega) hlt ?_⟩
      have h3:=YH.out ad.block (m2.2 ad _ _ (by rw[e]))
      have h4:=hy2.lt
      omega
    have zx:=ah hrd;have ano:=ah hbx;have anp:=ah aju
    rw[←hwf] at zx
    have hfin:=hR0.setRow V'.cells
    clear hown hrd hbx aju hBr hV' rW hwf
    go_wp2_with (first | (refine aC (by rfl) 27 _ rfl tb rfl _ _ _ _ ano.out Tryz.underlying27 rfl (aQ _) ?_) | (refine wpList_store_row rfl 27 _ _ rfl (w.heap.size+1) _ rfl rfl _ _ hR0 (aQ _) (aG.sizes _ _) (aG.all _) ?_))
    refine bodyPost_ret (bK rfl _ _ (w.heap.size+1) 27 _ (.int .i64 0) rfl rfl hfin Tryz.underlying27 rfl (aQ _)) rfl ?_
    exact⟨below_setRow anp.out (by omega) _,V',rfl,zx.out.1,zx.out.2⟩
end
section
open Go.RowKit
theorem ajv(N:Nf)(V:Y3)(names:List (List UInt8))(na:Option Addr)(nc most:Nat)(w:World)(h:tH w N V)(hw:N.wf)(h0:0<N.states)(hs:N.states≤65536)(hn:ak w (.slice na names.length nc) 1 nO names)(hnl:∀ x∈names,x.length≤9223372036854775807)
  (hlk:N.links.length≤1099511627776) (he:N.edges.length≤65536) (hm1:1≤most) (hm2:most≤65536) (hT:Tab w) (h64:names.length≤1099511627776) :
  Calls Tryz.prog 55 #[.agg (dK N V),.slice na names.length nc,.int .i64 most] w (yR w (DX N names most)):=by
 unfold DX
 by_cases hy:yQ N names=true
 ·rw[if_pos hy]
  cases hb:jU N most (iy N) (most+1) 0 [fU N [0]] [] with
  | none=>exact Y0 N V names na nc most w h hw h0 hs hn hnl hlk he hm1 hm2 hT hy hb
  | some r=>exact abH N V names na nc most w h hw h0 hs hn hnl hlk he hm1 hm2 hT hy h64 r.1 r.2 hb
 ·rw[if_neg hy]
  exact abG N V names na nc most w h hw h0 hs hn hnl (by simpa using hy)
def DY(L:List (List UInt8×Tr))(most:Nat):Sum Nat aT:=if sU L=true then (if qL (L.map (·.2))≤65536 then DX (tC (L.map (·.2))) (L.map (·.1)) most else .inl 7) else .inl 6
theorem VN{L:List (List UInt8×Tr)}(h:sU L=true):L.length≤64∧∀ x∈L,iZ x.2=true:=by
 unfold sU qE at h
 simp only[Bool.and_eq_true,decide_eq_true_eq,List.all_eq_true] at h
 refine⟨h.1,fun x hx=>?_⟩
 obtain⟨i,hi,rfl⟩:=List.mem_iff_getElem.1 hx
 have:=h.2 i (List.mem_range.2 hi)
 unfold A8 at this
 rw[List.getElem?_eq_getElem hi] at this
 simp only[Bool.and_eq_true] at this
 exact this.2
theorem UM(Rs:List (List UInt8×Vt))(a:Option Addr)(n cap most:Nat)(w:World)(h:ak w (.slice a n cap) 9 jf Rs)(hL:∀ i (h:i<Rs.length),Lies w Rs[i].2)(hnm:∀ x∈Rs,x.1.length≤9223372036854775807)(hno:sU (Rs.map zB)=false) :
  Calls Tryz.prog 36 #[.slice a n cap,.int .i64 most] w (yR w (.inl 6)):=by
 have hb0:=aj w (.cells Vz.cells 27)
 have hy0:=Box.new w Vz.cells 27
 have HR:=ah (fun u (hu:Below w.heap.size w u)=>hno▸MW a cap n Rs u (h.kept hu) (fun i hi=>(hL i hi).kept hu) hnm)
 have hsz:Vz.cells.size=260:=aG.size _
 clear h hL hnm hno
 obtain⟨W1,hW1⟩:∃ W1,w.alloc (.cells Vz.cells 27)=W1:=⟨_,rfl⟩
 rw[hW1] at hb0 hy0
 have HW1:=ah hW1
 clear hW1
 go_enter Tryz.func36,Tryz.ntmps36
 go_wp2_with fail
 simp only[jM,HW1.out]
 refine(HR.out _ hb0).mono ?_
 rintro e w2 ⟨rfl,hb2⟩
 have hy2:=hy0.kept hb2
 go_wp2_with (first | (simp only[jM];refine wpList_store_row rfl 27 _ _ rfl w.heap.size _ rfl rfl _ _ hy2 (aQ _) rfl (aG.all _) ?_))
 have hfin:=hy2.setRow Vz.cells
 refine bodyPost_ret (bK rfl _ _ w.heap.size 27 _ (.int .i64 6) rfl rfl hfin Tryz.underlying27 rfl (aQ _)) rfl ?_
 exact⟨below_setRow (hb0.trans (hb2.mono hb0.size)) (Nat.le_refl _) _,rfl⟩
theorem QA(Rs:List (List UInt8×Vt))(a:Option Addr)(n cap most:Nat)(w:World)(h:ak w (.slice a n cap) 9 jf Rs)(hL:∀ i (h:i<Rs.length),Lies w Rs[i].2)(hnm:∀ x∈Rs,x.1.length≤9223372036854775807)(hyes:sU (Rs.map zB)=true)(hT:Tab w)(hm1:1≤most)(hm2:most≤65536) :
  Calls Tryz.prog 36 #[.slice a n cap,.int .i64 most] w (yR w (if qL (Rs.map fun x=>x.2.tr)≤65536 then DX (tC (Rs.map fun x=>x.2.tr)) (Rs.map (·.1)) most else .inl 7)):=by
 obtain⟨aei,hall⟩:=VN hyes
 rw[List.length_map] at aei
 have hright:∀ x∈Rs,iZ x.2.tr=true:=fun x hx=>hall (zB x) (List.mem_map.2 ⟨x,hx,rfl⟩)
 have hb0:=aj w (.cells Vz.cells 27)
 have hy0:=Box.new w Vz.cells 27
 have HR:=ah (fun u (hu:Below w.heap.size w u)=>hyes▸MW a cap n Rs u (h.kept hu) (fun i hi=>(hL i hi).kept hu) hnm)
 have hsz:Vz.cells.size=260:=aG.size _
 obtain⟨b,o,hn,hcap,hcap2,ha,hx⟩:=h.open
 have HX:=ah hx;have HA:=ah ha;have HN:=ah hn;have HL:=ah hL;have uU:=ah hnm;have PE:=ah hright;have HTB:=ah hT;have H64:=ah aei
 have rJ:n≤64:=by omega
 obtain⟨bodies,aej⟩:∃ l,Rs.map (·.2)=l:=⟨_,rfl⟩
 obtain⟨names,aek⟩:∃ l,Rs.map (·.1)=l:=⟨_,rfl⟩
 have ajw:(Rs.map fun x=>x.2.tr)=bodies.map Vt.tr:=by rw[←aej,List.map_map];rfl
 rw[ajw,aek]
 obtain⟨ANS,hA⟩:∃ ANS,(if qL (bodies.map Vt.tr)≤65536 then DX (tC (bodies.map Vt.tr)) names most else .inl 7)=ANS:=⟨_,rfl⟩
 rw[hA]
 have lD:=ah hA
 clear hA
 have GY:=ah aej;have wZ:=ah aek
 clear h hL hnm hyes hx ha hn hright hT hall aei aej aek ajw
 obtain⟨W1,hW1⟩:∃ W1,w.alloc (.cells Vz.cells 27)=W1:=⟨_,rfl⟩
 rw[hW1] at hb0 hy0
 have HW1:=ah hW1
 clear hW1
 go_enter Tryz.func36,Tryz.ntmps36
 go_wp2_with fail
 simp only[jM,HW1.out]
 refine(HR.out _ hb0).mono ?_
 rintro e w2 ⟨rfl,hb2⟩
 go_wp2
 have hB2:=hb0.trans (hb2.mono hb0.size)
 have hy2:=hy0.kept hb2
 have HB2:=ah hB2;have HY2:=ah hy2
 clear hB2 hy2 hb2 hb0 hy0 HR
 go_loopw [6,7,18] (fun v6 v7 v18 wr=>∃ (k:Nat) (aB:Option Addr) (qB cB:Nat) (aN:Option Addr) (qN cN:Nat),k≤n∧v18=.int .i64 k∧v6=.slice aB qB cB∧v7=.slice aN qN cN∧Own wr w2.heap.size 101 8 Vt.cells (.slice aB qB cB) (bodies.take k)∧Own wr w2.heap.size 9 1 nO (.slice aN qN cN) (names.take k)∧Below w2.heap.size w2 wr) (fun _ _ v18 _=>n - (intOf v18).toNat)
 case atStart=>exact⟨0,none,0,0,none,0,0,Nat.zero_le _,rfl,rfl,rfl,Own.nil _ _ _ _ _,Own.nil _ _ _ _ _,Below.refl _ _⟩
 case round =>
  obtain⟨k,aB,qB,cB,aN,qN,cN,hk,rfl,rfl,rfl,hob,hon,hB⟩:=hrel
  have hBw:Below w.heap.size w wr:=HB2.out.trans (hB.mono HB2.out.size)
  by_cases hlt:k<n
  ·have hk2:k<Rs.length:=by rw[←HN.out];exact hlt
   obtain rfl:=HA.out k hk2
   have hy:∀ j u,(jf Rs[k])[j]?=some u→wr.cell? ⟨b,o+k*9+j,none⟩=some u:=fun j u hu=>by
    have:=HX.out k hk2 j u hu
    rw[hBw.cell (World.block_lt_of_cell? w _ this)];exact this
   have htb:bodies.take (k+1)=bodies.take k++[Rs[k].2]:=by
    rw[←GY.out,←List.map_take,←List.map_take,List.take_succ_eq_append_getElem hk2,List.map_append];rfl
   have htn:names.take (k+1)=names.take k++[Rs[k].1]:=by
    rw[←wZ.out,←List.map_take,←List.map_take,List.take_succ_eq_append_getElem hk2,List.map_append];rfl
   have hlb:(bodies.take k).length≤k:=List.length_take_le _ _
   have hln:(names.take k).length≤k:=List.length_take_le _ _
   generalize bodies.take k=bk at *
   generalize names.take k=nk at *
   generalize Rs[k]=x at *
   obtain⟨nm,⟨k5,s5,a5,cp5,bZ,cu,hi5⟩⟩:=x
   have y0:=hy 0 _ rfl
   have y1:=hy 1 _ rfl
   have y2:=hy 2 _ rfl
   have y3:=hy 3 _ rfl
   have y4:=hy 4 _ rfl
   have y5:=hy 5 _ rfl
   have y6:=hy 6 _ rfl
   have y7:=hy 7 _ rfl
   have y8:=hy 8 _ rfl
   have hbl:=World.block_lt_of_cell? wr _ y0
   simp only[Nat.add_zero] at y0
   have hki:(k:Int)<(n:Int):=by omega
   have hk0:(0:Int)≤(k:Int):=by omega
   obtain⟨R9,zq⟩:∃ R9:Array Value,#[sv nm,.int .i64 k5,.int .u64 (word s5 0:Nat),.int .u64 (word s5 1:Nat),.int .u64 (word s5 2:Nat),.int .u64 (word s5 3:Nat),.slice a5 bZ.length cp5,.int .i64 cu,.int .i64 hi5]=R9:=⟨_,rfl⟩
   have hq1:=hob.open.1
   have hq2:=hon.open.1
   have hB1:=aj wr (.cells #[sv nm,.int .i64 k5,.int .u64 (word s5 0:Nat),.int .u64 (word s5 1:Nat),.int .u64 (word s5 2:Nat),.int .u64 (word s5 3:Nat),.slice a5 bZ.length cp5,.int .i64 cu,.int .i64 hi5] 103)
   have ael:=hob.kept hB1
   have anq:=hon.kept hB1
   have hbox:=Box.new wr #[sv nm,.int .i64 k5,.int .u64 (word s5 0:Nat),.int .u64 (word s5 1:Nat),.int .u64 (word s5 2:Nat),.int .u64 (word s5 3:Nat),.slice a5 bZ.length cp5,.int .i64 cu,.int .i64 hi5] 103
   have OI:=hB.trans (hB1.mono hB.size)
   have anr:=ah htb;have HTN:=ah htn;have HOB:=ah hob;have Jd:=ah hon;have HQ1:=ah hq1;have HQ2:=ah hq2;have Ce:=ah hB
   have hbs:=hB.size
   clear hy htb htn hob hon hq1 hq2 hB hBw zq
   go_wp2_with (first | (at_builtin;(refine eU rfl _ _ 95 rfl FM Ei rfl (ael.alloc _) ⟨wr.heap.size+1,0,none⟩ 1 (Vt.mk k5 s5 a5 cp5 bZ cu hi5) rfl (by rw[←World.size_alloc wr (.cells #[sv nm,.int .i64 k5,.int .u64 (word s5 0:Nat),.int .u64 (word s5 1:Nat),.int .u64 (word s5 2:Nat),.int .u64 (word s5 3:Nat),.slice a5 bZ.length cp5,.int .i64 cu,.int .i64 hi5] 103)];exact dA _ (Vt.cells (Vt.mk k5 s5 a5 cp5 bZ cu hi5)) _) (by simp only[maxLen];omega) (by omega) (by simp only[World.size_alloc];omega) ?_;intro a7 c7 w7 iF cZ;have hbk:=(cZ.block wr.heap.size (by simp only[World.size_alloc];omega) (fun e'=>by { have:=(HOB.out.blk e'.symm).2;omega })).trans (hbox.kept (aj _ (.cells (Vt.cells (Vt.mk k5 s5 a5 cp5 bZ cu hi5)).toArray 101)));have z0:w7.cell? ⟨wr.heap.size,0,none⟩=some (sv nm):=Box.cell hbk 0;have lz:=Box.lt hbk;have aem:=(anq.alloc (.cells (Vt.cells (Vt.mk k5 s5 a5 cp5 bZ cu hi5)).toArray 101)).lV (ael.alloc _) cZ (by decide))) | (at_builtin;go_must (refine eU rfl _ _ 25 rfl PL Dx rfl (aem.alloc _) ⟨w7.heap.size,0,none⟩ 1 nm rfl (dA w7 [sv nm] _) (by simp only[maxLen];omega) (by omega) (by have:=cZ.size;simp only[World.size_alloc] at *;omega) ?_;intro a9 c9 w9 ho9 hg9)))
   have ant:=(iF.alloc (.cells #[sv nm] 9)).lV (aem.alloc _) hg9 (by decide)
   have hs7:=cZ.size
   have hBc:=OI.alloc OI.size (.cells (Vt.cells (Vt.mk k5 s5 a5 cp5 bZ cu hi5)).toArray 101)
   have pK:=below_grown hBc (ael.alloc _) cZ (Nat.le_refl _) hBc.size
   have pO:=pK.alloc pK.size (.cells #[sv nm] 9)
   have lZ:=below_grown pO (aem.alloc _) hg9 (Nat.le_refl _) pO.size
   exact⟨⟨k+1,a7,_,c7,a9,_,c9,hlt,by push_cast;rfl,rfl,rfl,by rw[anr.out];exact ant,by rw[HTN.out];exact ho9,lZ⟩,by simp[intOf];omega⟩
  ·obtain rfl:k=n:=by omega
   have hkb:bodies.take k=bodies:=List.take_of_length_le (by rw[←GY.out,List.length_map,HN.out];exact Nat.le_refl _)
   have hkn:names.take k=names:=List.take_of_length_le (by rw[←wZ.out,List.length_map,HN.out];exact Nat.le_refl _)
   rw[hkb] at hob
   rw[hkn] at hon
   have hq1:=hob.open.1
   have hq2:=hon.open.1
   subst hq1
   subst hq2
   have hlies:∀ i (h:i<bodies.length),Lies wr bodies[i]:=fun i hi=>by
    have hi2:i<Rs.length:=by rw[←GY.out,List.length_map] at hi;exact hi
    have e:bodies[i]=Rs[i].2:=by simp only[←GY.out,List.getElem_map]
    rw[e];exact(HL.out i hi2).kept hBw
   have hrt:∀ x∈bodies,iZ x.tr=true:=fun x hx=>by
    rw[←GY.out] at hx
    obtain⟨y,hy,rfl⟩:=List.mem_map.1 hx
    exact PE.out y hy
   have hb64:bodies.length≤64:=by rw[←GY.out,List.length_map];exact H64.out
   have apI:names.length≤64:=by rw[←wZ.out,List.length_map];exact H64.out
   have ajy:=ais bodies aB cB wr (hob.slice Ei) hlies (fun i hi=>hrt _ (List.getElem_mem hi)) hb64
   have TG:∀ x∈names,x.length≤9223372036854775807:=fun x hx=>by
    rw[←wZ.out] at hx
    obtain⟨y,hy,rfl⟩:=List.mem_map.1 hx
    exact uU.out y hy
   have ajz:∀ x∈bodies.map Vt.tr,iZ x=true:=fun x hx=>by
    obtain⟨y,hy,rfl⟩:=List.mem_map.1 hx
    exact hrt y hy
   have hok:=afO (bodies.map Vt.tr) (by rw[List.length_map];exact hb64)
   have hsm:=Nl (bodies.map Vt.tr) ajz
   have Cc:=ah (HY2.out.kept hB);have iG:=ah hBw;have Jd:=ah hon;have MC:=ah hok;have xg:=ah hsm;have L9:=ah ajy;have anu:=ah TG
   have HTW:=ah (HTB.out.kept hBw)
   clear hob hon hB hlies hrt ajy ajz hok hsm TG hBw hkb hkn
   by_cases hbig:qL (bodies.map Vt.tr)≤65536
   ·obtain⟨hg1,hg2,hg3,hg4⟩:=xg.out hbig
    obtain⟨hwf,wG⟩:=MC.out
    have hst:(tC (bodies.map Vt.tr)).states≤65536:=by unfold tC;rw[hwf.st];exact hg2
    have hans:=lD.out
    rw[if_pos hbig] at hans
    have hof:=fun(V:Y3) (u:World) (hu:Below wr.heap.size wr u) (hA:tH u (tC (bodies.map Vt.tr)) V)=>ajv (tC (bodies.map Vt.tr)) V names aN cN most u hA hwf wG hst ((Jd.out.kept hu).slice Dx) anu.out (by unfold tC;omega) hg3 hm1 hm2 (HTW.out.kept hu) (by omega)
    rw[hans] at hof
    have EU:=ah hof
    have hnf:Calls Tryz.prog 54 #[.slice aB bodies.length cB] wr fun e w'=>Below wr.heap.size wr w'∧∃ V,tH w' (tC (bodies.map Vt.tr)) V∧e=.returned (.tuple #[.agg (dK (tC (bodies.map Vt.tr)) V),.int .i64 0]):=L9.out.mono fun e w' h=>⟨h.1,by have:=h.2;rwa[if_pos hbig] at this⟩
    have Y2:=ah hnf
    clear hnf hof hans L9 xg MC hbig hg1 hg2 hg3 hg4 hwf wG hst
    generalize tC (bodies.map Vt.tr)=NN at *
    go_wp2_with fail
    refine Y2.out.mono ?_
    rintro e w4 ⟨hb4,V,hA,rfl⟩
    have ajA:=EU.out V _ (hb4.alloc hb4.size (.cells (dK NN V) 107)) (hA.kept (aj w4 (.cells (dK NN V) 107)))
    have hB4:=iG.out.trans ((hb4.alloc hb4.size (.cells (dK NN V) 107)).mono iG.out.size)
    have hy4:=Cc.out.kept (hb4.alloc hb4.size (.cells (dK NN V) 107))
    obtain⟨vl,ve,va⟩:=V
    obtain⟨la,lc,hvl⟩:=hA.li.form
    obtain⟨ea,ec,mD⟩:=hA.ed.form
    obtain⟨aa,ac,hva⟩:=hA.ac.form
    dsimp only at hvl mD hva
    subst hvl
    subst mD
    subst hva
    unfold dK at *
    dsimp only at *
    have HF4:=ah ajA;have HB4:=ah hB4;have HY4:=ah hy4
    clear ajA hB4 hy4 hA hb4 EU Y2
    cases ANS with
    | inl c =>
     go_wp2_with (first | (go_at_call 55;go_must (refine HF4.out.mono ?_;rintro e w5 ⟨hb5,rfl⟩;have hy5:=HY4.out.kept hb5)) | (refine wpList_store_row rfl 27 _ _ rfl w.heap.size _ rfl rfl _ _ hy5 (aQ _) (aG.sizes _ _) (aG.all _) ?_))
     have hfin:=hy5.setRow Vz.cells
     refine bodyPost_ret (bK rfl _ _ w.heap.size 27 _ (.int .i64 c) rfl rfl hfin Tryz.underlying27 rfl (aQ _)) rfl ?_
     exact⟨below_setRow (HB4.out.trans (hb5.mono HB4.out.size)) (Nat.le_refl _) _,rfl⟩
    | inr D =>
     go_wp2_with (first | (go_at_call 55;go_must (refine HF4.out.mono ?_;rintro e w5 ⟨hb5,V',rfl,hrd,anv⟩;have hy5:=HY4.out.kept hb5)) | (refine wpList_store_row rfl 27 _ _ rfl w.heap.size _ rfl rfl _ _ hy5 (aQ _) (aG.sizes _ _) (aG.all _) ?_))
     have hfin:=hy5.setRow V'.cells
     refine bodyPost_ret (bK rfl _ _ w.heap.size 27 _ (.int .i64 0) rfl rfl hfin Tryz.underlying27 rfl (aQ _)) rfl ?_
     refine⟨below_setRow (HB4.out.trans (hb5.mono HB4.out.size)) (Nat.le_refl _) _,V',rfl,fun u hu=>hrd u (fun b hb1 hb2=>?_),anv⟩
     have hlt:=HY4.out.lt
     have hne:b≠w.heap.size:=by have:=HB4.out.size;omega
     have hge:w.heap.size≤b:=by have:=HB4.out.size;omega
     rw[hu b hge (by rw[size_setRow];exact hb2)]
     exact setRow_other w5 _ b _ hne
   ·have hnf:Calls Tryz.prog 54 #[.slice aB bodies.length cB] wr fun e w'=>Below wr.heap.size wr w'∧e=.returned (.tuple #[.agg #[.int .i64 0,.int .i64 0,.slice none 0 0,.slice none 0 0,.slice none 0 0],.int .i64 7]):=L9.out.mono fun e w' h=>⟨h.1,by have:=h.2;rwa[if_neg hbig] at this⟩
    have Y2:=ah hnf
    have hans:=lD.out
    rw[if_neg hbig] at hans
    subst hans
    clear hnf L9 xg MC hbig lD
    go_wp2_with (first | (go_at_call 54;go_must (refine Y2.out.mono ?_;rintro e w4 ⟨hb4,rfl⟩;have hy4:=(Cc.out.kept hb4).kept (aj w4 (.cells #[.int .i64 0,.int .i64 0,.slice none 0 0,.slice none 0 0,.slice none 0 0] 107)))) | (simp only[jM];refine wpList_store_row rfl 27 _ _ rfl w.heap.size _ rfl rfl _ _ hy4 (aQ _) (aG.sizes _ _) (aG.all _) ?_))
    have hfin:=hy4.setRow Vz.cells
    refine bodyPost_ret (bK rfl _ _ w.heap.size 27 _ (.int .i64 7) rfl rfl hfin Tryz.underlying27 rfl (aQ _)) rfl ?_
    exact⟨below_setRow (iG.out.trans ((hb4.alloc hb4.size _).mono iG.out.size)) (Nat.le_refl _) _,rfl⟩
theorem abK(Rs:List (List UInt8×Vt))(a:Option Addr)(n cap most:Nat)(w:World)(h:ak w (.slice a n cap) 9 jf Rs)(hL:∀ i (h:i<Rs.length),Lies w Rs[i].2)(hnm:∀ x∈Rs,x.1.length≤9223372036854775807)(hT:Tab w)(hm1:1≤most)(hm2:most≤65536) :
  Calls Tryz.prog 36 #[.slice a n cap,.int .i64 most] w (yR w (DY (Rs.map zB) most)):=by
 unfold DY
 by_cases hr:sU (Rs.map zB)=true
 ·rw[if_pos hr,List.map_map,List.map_map]
  exact QA Rs a n cap most w h hL hnm hr hT hm1 hm2
 ·rw[if_neg hr]
  exact UM Rs a n cap most w h hL hnm (by simpa using hr)
end
section
open Go.RowKit
abbrev rZ(x:Int×Nat×Nat):List Value:=[.int .i64 x.1,.int .i64 x.2.1,.int .i64 x.2.2]
theorem yS:gq rZ 3:=⟨fun _=>rfl,fun x u hu=>by simp at hu;rcases hu with rfl | rfl | rfl <;> rfl⟩
theorem UN:fG Tryz.prog 30 37 (.agg #[.int .i64 0,.int .i64 0,.int .i64 0]) 3 24:=⟨Tryz.underlying30,info_parts (by kernel_rfl),rfl,by decide⟩
def yT(D:aT)(t:List UInt8):List (Int×Nat×Nat)×Nat:=eG D t (t.length+1) 0
def xR(w:World)(l:List (Int×Nat×Nat))(n:Nat)(c:Nat)(e:Ending)(w':World):Prop :=
 ∃ a cap,e=.returned (.tuple #[.slice a l.length cap,.int .i64 n,.int .i64 c])∧Own w' w.heap.size 37 3 rZ (.slice a l.length cap) l∧Below w.heap.size w w'
theorem Hw(D:aT)(t:List UInt8):∀ (f a:Nat),(eG D t f a).1.length≤f
 | 0,_=>Nat.le_refl _
 | f+1,a=>by
  rw[eG]
  cases kU D t a with
  | none=>exact Nat.zero_le _
  | some r=>have:=Hw D t f r.2;simp only[List.length_cons];omega
theorem Hy(V:aG)(D:aT)(t:List UInt8)(ta:Option Addr)(tn tc:Nat)(w:World)(h:dS w V D)(hl:∀ x∈D.names,x.length≤9223372036854775807)(hr:fH D=true)(hT:ak w (.slice ta tn tc) 1 bQ t)(htl:t.length≤1099511627776) :
  Calls Tryz.prog 11 #[.agg V.cells,.slice ta tn tc] w (xR w (yT D t).1 (yT D t).2 0):=by
 have hw:=AX hr
 obtain⟨n,wd,lb,lo,nb,no,rb,ro,rc,hm⟩:=machC h hw
 have hbx:=Box.new w V.cells 27
 have hB0:=aj w (.cells V.cells 27)
 have HR:=ah (fun u hu=>hr▸rM V D u (h.kept hu) hl)
 have HC:=ah (fun u hu=>Hu V D u (h.kept hu) hl hr)
 have HT:=ah hT;have HM:=ah hm;have HW:=ah hw
 have HV:=ah h.1
 clear h hl hr hT hm hw
 go_enter Tryz.func11,Tryz.ntmps11
 go_wp2_with (first | (refine aC (by rfl) 27 _ rfl w.heap.size rfl _ _ _ _ hbx Tryz.underlying27 rfl (aQ _) ?_) | (go_at_call 20;go_must (refine(HR.out _ hB0).mono ?_;rintro e w2 ⟨rfl,hb2⟩;have hbw:=hB0.trans (hb2.mono hB0.size);have hbx2:=hbx.kept hb2)) | (refine aC (by rfl) 27 _ rfl w.heap.size rfl _ _ _ _ hbx2 Tryz.underlying27 rfl (aQ _) ?_) | (go_at_call 37;go_must (refine(HC.out _ hbw).mono ?_;rintro e w3 ⟨cb,vb,rfl,Jr,hb3⟩)))
 have hB3:=hbw.trans (hb3.mono hbw.size)
 rw[HM.out.nl] at Jr
 have NC:=ah Jr;have HB3:=ah hB3
 obtain⟨TK,UO⟩:∃ TK,yT D t=TK:=⟨_,rfl⟩
 rw[UO]
 have vM:=ah UO
 clear Jr hB3 hb3 hbx2 hbw hb2 hB0 hbx HR HC UO
 go_loopw [8,9] (fun v8 v9 wr=>∃ (f at_:Nat) (acc:List (Int×Nat×Nat)) (a:Option Addr) (c:Nat),v8=.slice a acc.length c∧v9=.int .i64 at_∧at_≤t.length∧Own wr w3.heap.size 37 3 rZ (.slice a acc.length c) acc∧Below w3.heap.size w3 wr∧acc++(eG D t f at_).1=TK.1∧(eG D t f at_).2=TK.2∧t.length+1≤f+at_) (fun _ v9 _=>t.length - (intOf v9).toNat)
 case atStart=>exact⟨t.length+1,0,[],none,0,rfl,rfl,Nat.zero_le _,Own.nil _ _ _ _ _,Below.refl _ _,by rw[List.nil_append,←vM.out];rfl,by rw[←vM.out];rfl,Nat.le_refl _⟩
 case round =>
  obtain⟨f,at_,acc,a,c,rfl,rfl,hat,hown,hB,h1,h2,hf⟩:=hrel
  have hBw:Below w.heap.size w wr:=HB3.out.trans (hB.mono HB3.out.size)
  have hnx:=Xf w2.heap.size cb vb V D w wr HW.out HV.out n wd lb lo nb no rb ro rc HM.out hBw (NC.out.kept hB) t ta tn tc at_ (HT.out.kept hBw) hat htl
  obtain⟨f,rfl⟩:∃ f',f=f'+1:=⟨f - 1,by omega⟩
  rw[eG] at h1 h2
  unfold pG at hnx
  have hal:acc.length≤t.length+1:=by
   have e1:=congrArg List.length h1
   have e2:=Hw D t (t.length+1) 0
   rw[List.length_append] at e1
   have e3:TK.1.length≤t.length+1:=by rw[←vM.out];exact e2
   omega
  cases htk:kU D t at_ with
  | none =>
   rw[htk] at hnx h1 h2
   dsimp only at hnx h1 h2
   rw[List.append_nil] at h1
   have HN:=ah hnx;have H1:=ah (And.intro h1 h2);have HO:=ah hown;have iG:=ah hBw;have Ce:=ah hB
   clear hnx h1 h2 hown hBw hB htk
   go_wp2_with (go_at_call 38;go_must (refine HN.out.mono ?_;rintro e w4 ⟨rfl,hb4⟩))
   go_ret3
   obtain⟨h1,h2⟩:=H1.out
   have hB4:=Ce.out.trans (hb4.mono Ce.out.size)
   refine⟨a,c,by rw[←h1,←h2];rfl,?_,?_⟩
   ·rw[←h1];exact((HO.out.kept hb4).kept (aj _ _)).mono HB3.out.size
   ·exact(HB3.out.trans (hB4.mono HB3.out.size)).alloc (Nat.le_trans HB3.out.size hB4.size) _
  | some r =>
   obtain⟨k,e⟩:=r
   have hte:=nD htk
   rw[htk] at hnx h1 h2
   dsimp only at hnx h1 h2
   rw[show acc++(k,at_,e)::(eG D t f e).1=(acc++[(k,at_,e)])++(eG D t f e).1 by simp] at h1
   have HN:=ah hnx;have H1:=ah (And.intro h1 h2);have HO:=ah hown;have iG:=ah hBw;have Ce:=ah hB
   obtain⟨ht1,ht2,_⟩:=hte
   clear hnx h1 h2 hown hBw hB htk
   have hpos:=Ce.out.size
   go_wp2_with (first | (go_at_call 38;go_must (refine HN.out.mono ?_;rintro e4 w4 ⟨rfl,hb4⟩;have pW:=((HO.out.kept hb4).kept (aj w4 (.cells (nR k at_ e) 37))).kept (aj _ (.cells (nR k at_ e) 37));have anw:=hb4.size)) | (at_builtin;go_must (refine eU rfl _ _ 30 rfl UN yS rfl pW ⟨w4.heap.size+1,0,none⟩ 1 (k,at_,e) rfl (by rw[←World.size_alloc w4 (.cells (nR k at_ e) 37)];exact dA _ (rZ (k,at_,e)) _) (by simp only[maxLen];omega) (by omega) (by simp only[World.size_alloc];omega) ?_;intro a7 c7 w7 iF cZ;have hbk:Box w7 w4.heap.size (nR k at_ e) 37:=(cZ.block w4.heap.size (by simp only[World.size_alloc];omega) (fun e'=>by { have:=((HO.out.kept hb4).blk e'.symm).2;omega })).trans ((Box.new w4 _ _).kept (aj _ _));have y2:w7.cell? ⟨w4.heap.size,2,none⟩=some (.int .i64 e):=hbk.cell 2;have l2:=hbk.lt)))
   obtain⟨h1,h2⟩:=H1.out
   have hB4:=Ce.out.trans (hb4.mono Ce.out.size)
   have hs4:=hB4.size
   have bF:=(hB4.alloc hB4.size (.cells (nR k at_ e) 37)).alloc (by simp only[World.size_alloc];omega) (.cells (nR k at_ e) 37)
   exact⟨⟨f,e,acc++[(k,at_,e)],a7,c7,by simp,rfl,ht2,by simpa using iF,below_grown bF pW cZ (Nat.le_refl _) (by simp only[World.size_alloc];omega),h1,h2,by omega⟩,by simp[intOf];omega⟩
end
section
open Go.RowKit
def kG:List UInt8:=[105,102,58,105,102,10,105,100,58,91,97,45,122,93,43,10,119,115,58,92,120,50,48,43]
def kH:List UInt8:=[105,102,102,121,32,105,102,43]
def sW:List (List UInt8×Tr):=match zM kG with | .inr R=>R | .inl _=>[]
def Ci:aT:=match DY sW 50 with | .inr D=>D | .inl _=>⟨fun _=>0,0,[],[],[]⟩
theorem ajC:zM kG=.inr sW:=by
 have h:(zM kG).isRight=true:=by decide +kernel
 unfold sW
 cases hs:zM kG with
 | inl q=>rw[hs] at h;cases h
 | inr R=>rfl
theorem ajD:DY sW 50=.inr Ci:=by
 have h:(DY sW 50).isRight=true:=by decide +kernel
 unfold Ci
 cases hs:DY sW 50 with
 | inl q=>rw[hs] at h;cases h
 | inr R=>rfl
theorem agE:fH Ci=true:=by decide +kernel
theorem agF:∀ x∈Ci.names,x.length≤9223372036854775807:=by decide +kernel
theorem aen:∀ x∈sW,x.1.length≤9223372036854775807:=by decide +kernel
theorem ajE:yT Ci kH=([(2,0,4),(3,4,5),(1,5,7)],7):=by decide +kernel
end
section
open Go.RowKit
abbrev NH:Value:=.tuple #[.agg #[.int .i64 0,.int .i64 0,.int .i64 0],.bool false]
def oq(D:aT)(t:List UInt8)(p:Int):Value:=if fH D=true∧0≤p∧p≤(t.length:Nat) then pG D t p.toNat else NH
end
end Go.Proofs.YtaoinbjjolikhaaGreatDoor
