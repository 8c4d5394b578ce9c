/- The texts of S28, in few letters (mini.py). -/
import Derived.Test.YtbemonecmmnlcaaGreatDoorM27
set_option linter.unusedVariables false
set_option linter.unusedSimpArgs false
set_option maxRecDepth 20000
set_option maxHeartbeats 6400000
namespace Go.Proofs.YtbemonecmmnlcaaGreatDoor
section
open Go.RowKit
theorem CG{P:Program}{o:Oper}{a:Act}{w:World}(ty:TypeId)(x:Operand)(ho:o.op=.load ty x)(b off:Nat)(hx:a.eval x=.pointer (some ⟨b,off,none⟩)){cs:Array Value}{d:TypeDesc}(hc:w.rangeAt b off cs.toList)
  (hu:P.underlying ty=some d) (hd:d.isRow=true) (hi:(P.info? ty).map (·.size)=some cs.toList.length):(execOp a.eval o).run P w=.ok (.value (.agg cs)) w:=by
 have:=Qc ty x ho b off hx hc hu hd hi
 rwa[Array.toArray_toList] at this
theorem Jt(N:Nf)(l:List Nat):gU N l=match mD N l 65 with | []=>0 | k::_=>(k:Int):=by
 unfold gU mD
 have h:=List.head?_filter (p:=fun k=>decide (0<k)&&jU N l k) (l:=List.range 65)
 unfold jU at h ⊢
 rw[←h]
 cases (List.range 65).filter (fun k=>decide (0<k)&&l.any fun s=>N.accept.getD s 0==k) <;> rfl
theorem Ju(N:Nf)(most:Nat)(low:List Nat):∀ (f i:Nat) (sets:List (List Nat)) (next:List (List Int)) (r:List (List Nat)×List (List Int)),ji N most low f i sets next=some r→sets.length≤most→r.1.length≤most
 | 0,_,_,_,r,h,hs=>by rw[ji] at h;obtain rfl:=Option.some.inj h;exact hs
 | f+1,i,sets,next,r,h,hs=>by
  by_cases hi:i<sets.length
  ·rw[LV N most low f i sets next hi] at h
   cases hr:rowP N most (sets.getD i []) low sets [] with
   | none=>rw[hr] at h;cases h
   | some q =>
    rw[hr] at h
    exact Ju N most low f (i+1) q.1 _ r h ((PN N most _ low sets [] q hr).2 hs)
  ·rw[Jq N most low (f+1) i sets next hi] at h
   obtain rfl:=Option.some.inj h
   exact hs
theorem FU(V:au)(a:Option Addr)(n c:Nat):V.cells.setIfInBounds 258 (.slice a n c)=au.cells { V with la:=a,ln:=n,lc:=c }:=by
 refine BU (by rw[Array.size_setIfInBounds,au.size]) (fun i h=>?_) ?_ ?_ ?_ ?_
 ·rw[Array.getElem?_setIfInBounds_ne (by omega),V.DJ i h]
 ·rw[Array.getElem?_setIfInBounds_ne (by omega),V.yR]
 ·rw[Array.getElem?_setIfInBounds_ne (by omega),V.uI]
 ·rw[Array.getElem?_setIfInBounds,if_pos rfl,if_pos (by rw[au.size];decide)]
 ·rw[Array.getElem?_setIfInBounds_ne (by omega),V.yS]
theorem ak.slV{w:World}{v:Value}{xs:List Fz}(h:ak w v 1 vG xs):ak w v 1 Zj (xs.map fun x:Fz=>Value.slice x.1 x.2.1 x.2.2):=by
 obtain⟨a,b,o,cap,rfl,hl,hc,ha,hx⟩:=h
 refine⟨a,b,o,cap,by rw[List.length_map],by rw[List.length_map];exact hl,hc,ha.imp id (fun⟨h1,h2⟩=>⟨by rw[h1];rfl,h2⟩),fun i hi j u hu=>?_⟩
 rw[List.length_map] at hi
 rw[List.getElem_map] at hu
 exact hx i hi j u hu
theorem akc(P:Nat→Option Addr→Nat→World→Prop){T:Nat→Option Addr→Nat→World→Prop}{G:Prop}(h1:(∀ tb ma mc W,P tb ma mc W→T tb ma mc W)→G)(h2:∀ tb ma mc W,P tb ma mc W→T tb ma mc W):G:=h1 h2
def pK(f:Nat→Nat)(n:Nat)(na:Option Addr)(nn nc:Nat)(ma:Option Addr)(mn mc:Nat):au:=⟨f,(n:Nat),na,nn,nc,none,0,0,ma,mn,mc⟩
def ahi(w3:World)(C:Option Addr→Nat→au)(names:List (List UInt8))(tb:Nat)(ma:Option Addr)(mc:Nat)(W:World):Prop :=
 Below w3.heap.size w3 W∧w3.heap.size≤tb∧Box W tb (C ma mc).cells 27∧Own W w3.heap.size 9 1 kH (.slice ma names.length mc) names
theorem Yt(N:Nf)(V:Y3)(names:List (List UInt8))(na:Option Addr)(nc most:Nat)(w:World)(h:qE w N V)(hw:N.wf)(h0:0<N.states)(hs:N.states≤65536)(hn:ak w (.slice na names.length nc) 1 kH names)(hnl:∀ x∈names,x.length≤9223372036854775807)
  (hlk:N.links.length≤1099511627776) (he:N.edges.length≤65536) (hm1:1≤most) (hm2:most≤65536) (hT:Tab w) (hyes:vZ N names=true) (ahj:names.length≤1099511627776)
  (sets:List (List Nat)) (next:List (List Int)) (hok:ji N most (fP N) (most+1) 0 [fA N [0]] []=some (sets,next)) :
  Calls Tryz.prog 101 #[.agg (bZ N V),.slice na names.length nc,.int .i64 most] w (yA w (.inr ⟨bf (RL (N.edges.map (·.2.1))),((fP N).length:Nat),next,sets.map (gU N),names⟩)):=by
 have hB0:=aj w (.cells (bZ N V) 157)
 have hbx:=Box.new w (bZ N V) 157
 have hB1:=hB0.alloc hB0.size (.cells Vz.cells 27)
 have hby:Box ((w.alloc (.cells (bZ N V) 157)).alloc (.cells Vz.cells 27)) (w.heap.size+1) Vz.cells 27:=Box.new' (World.size_alloc _ _).symm _ _
 have dW:=hbx.kept (aj (w.alloc (.cells (bZ N V) 157)) (.cells Vz.cells 27))
 have HN:=ah (fun u hu=>hyes▸Ei N V names na nc u (h.kept hu) hw h0 hs (hn.kept hu) hnl)
 have HO:=ah (fun u hu=>by
  have h1:=Yk N V most u (h.kept hu) hw h0 hs hlk he hm1 hm2 (hT.kept hu)
  unfold Nh at h1
  rw[hok] at h1
  exact h1)
 have vV:=ah hn
 have hsm:=Ju N most (fP N) _ _ _ _ _ hok hm1
 dsimp only at hsm
 obtain⟨vl,ve,va⟩:=V
 obtain⟨la,lc,hvl⟩:=h.li.form
 obtain⟨ea,ec,kL⟩:=h.ed.form
 obtain⟨aa,ac,hva⟩:=h.ac.form
 dsimp only at hvl kL hva
 subst hvl
 subst kL
 subst hva
 have hsz:Vz.cells.size=260:=au.size _
 clear h hw hn hnl hyes hok hT
 unfold bZ at *
 dsimp only at *
 generalize hW1:((w.alloc (.cells #[.int .i64 N.states,.int .i64 0,.slice la N.links.length lc,.slice ea N.edges.length ec,.slice aa N.accept.length ac] 157)).alloc (.cells Vz.cells 27))=W1 at *
 have HW1:=ah hW1
 have x0:W1.cell? ⟨w.heap.size,0,none⟩=some (.int .i64 N.states):=dW.cell 0
 have x1:W1.cell? ⟨w.heap.size,1,none⟩=some (.int .i64 0):=dW.cell 1
 have x2:W1.cell? ⟨w.heap.size,2,none⟩=some (.slice la N.links.length lc):=dW.cell 2
 have x3:W1.cell? ⟨w.heap.size,3,none⟩=some (.slice ea N.edges.length ec):=dW.cell 3
 have x4:W1.cell? ⟨w.heap.size,4,none⟩=some (.slice aa N.accept.length ac):=dW.cell 4
 have lx:=dW.lt
 clear hW1 hbx hB0
 go_enter Tryz.func101,Tryz.ntmps101
 go_wp2_with (first | (with_reducible refine Halt.go (p:=wpList _ _ _ ({ dst:=some 15,op:=_,type:=_,pos:=_,after:=_,guard:=_ }::_) _ _) ?_) | fail)
 simp only[iY,HW1.out]
 unfold Halt
 go_wp2_with (first | (go_at_call 147;go_must (refine(HN.out _ hB1).mono ?_;rintro e w2 ⟨rfl,hb2⟩;have hy2:=hby.kept hb2;have hx2:=dW.kept hb2;have hB2:=hB1.trans (hb2.mono hB1.size);have z0:w2.cell? ⟨w.heap.size,0,none⟩=some (.int .i64 N.states):=hx2.cell 0;have z1:w2.cell? ⟨w.heap.size,1,none⟩=some (.int .i64 0):=hx2.cell 1;have z2:w2.cell? ⟨w.heap.size,2,none⟩=some (.slice la N.links.length lc):=hx2.cell 2;have z3:w2.cell? ⟨w.heap.size,3,none⟩=some (.slice ea N.edges.length ec):=hx2.cell 3;have z4:w2.cell? ⟨w.heap.size,4,none⟩=some (.slice aa N.accept.length ac):=hx2.cell 4;have lz:=hx2.lt)) | (go_at_call 148;go_must (refine(HO.out w2 hB2).mono ?_;rintro e w3 ⟨hb3,bp,base,inn,mb,B,kv,lb,eb,kl,ke,va,rfl,yx,hlo,aga,agb,hMa,agc,nZ⟩;have hy3:=hy2.kept hb3)))
 have hB3:=hB2.trans (hb3.mono hB2.size)
 obtain⟨pO,aaO,agd,agf⟩:=yx.nexts
 obtain⟨yB,yC,LC⟩:=aaO.form
 obtain⟨loa,loc,aaP⟩:∃ a c,B.lo=.slice a (fP N).length c:=by obtain⟨a,_,_,c,hv,_⟩:=hlo.1;exact⟨a,c,hv⟩
 have hDr:Below w3.heap.size w3 w3.drew:=(Below.refl _ _).drew
 have HF:Hid (∀ u,Later w3.drew u→Box u bp (bW B) 226∧u.cell? ⟨bp,258,none⟩=some (.slice loa (fP N).length loc)∧u.cell? ⟨bp,261,none⟩=some (.slice yB pO.length yC)∧Calls Tryz.prog 81 #[.slice na names.length nc] u (gu u 9 1 kH names)∧Below w3.heap.size w3 u):=ah fun u hu=>by
  have h1:Below w3.heap.size w3 u:=hDr.trans (hu.mono hDr.size)
  have hx:=yx.box.kept h1
  refine⟨hx,?_,?_,FT names na names.length nc u (vV.out.kept ((hB3.trans (h1.mono hB3.size)))) ahj,h1⟩
  ·rw[hx.cell,rO,aaP]
  ·rw[hx.cell,rQ,LC]
 have hlow:(fP N).length≤256:=jZ _ _
 have Ym:=ah yx;have HLO:=ah hlo;have HMA:=ah hMa;have HY3:=ah hy3;have HB3:=ah hB3;have akd:=ah aaO;have ake:=ah agf;have U5:=ah nZ;have akf:=ah agc;have DX:=ah aga;have Ad:=ah agb;have Fb:=ah agd;have Ej:=ah aaP;have HNV:=ah LC
 clear nZ agc aga agb agd aaP LC hDr yx hlo hMa hy3 hB3 aaO agf HN HO x0 x1 x2 x3 x4 z0 z1 z2 z3 z4
 refine aW (R:=Later) 17 (by kernel_rfl) ?_
 refine pl [0,1,2] ?_
 repeat
  refine jW ?_ rfl (fun w1 hl=>?_) ?_
  rotate_left
  ·skip;go_simp;try with_reducible rfl
  simp only[eA,eB,eC,Act.put,eD,eE,eF]
 refine eX ?_
 refine kP 3 (.agg (aT B.of)) rfl (fun w1 hl=>?_) ?_
 ·exact CG 22 _ rfl bp 2 rfl (HF.out w1 hl).1.SN Tryz.underlying22 rfl (by rw[Array.length_toList,aO];rfl)
 simp only[List.getElem_toArray,List.getElem_cons_zero,List.getElem_cons_succ,Act.put,List.setIfInBounds_toArray,List.set_cons_zero,List.set_cons_succ]
 refine pl [4,5,6,7,8,9,10,11,12,13] ?_
 repeat
  refine jW ?_ rfl (fun w1 hl=>?_) ?_
  rotate_left
  ·obtain⟨hX,q1,q2,_,_⟩:=HF.out w1 hl;have lX:=hX.lt;go_simp;try with_reducible rfl
  simp only[eA,eB,eC,Act.put,eD,eE,eF]
 refine eX ?_
 refine akc (ahi w3 (fun ma mc=>pK B.of (fP N).length yB pO.length yC ma names.length mc) names) (T:=?T) (fun key=>?main) ?rest
 case main =>
  have l0:Later w3.drew w3.drew:=Later.refl _
  refine Eu (t:=17) (i:=14) (j:=16) (by kernel_rfl) rfl rfl (fun w1 hl K hK=>?_) (fun w1 hl K hK=>?_)
  ·have hs1:=(HF.out w1 (Later.trans _ _ _ l0 hl)).2.2.2.2.size
   go_simp
   refine(HF.out w1 (Later.trans _ _ _ l0 hl)).2.2.2.1.mono ?_
   rintro e wq ⟨ma,mc,rfl,hown,hbq⟩
   refine hK.out _ _ (fun _=>hbq) ?_
   clear hK K
   replace l0:=Later.trans _ _ _ (Later.trans _ _ _ l0 hl) hbq
   have hwb:w3.heap.size≤w1.heap.size:=hs1
   have l1:=l0
   refine kP 15 (.agg (pK B.of (fP N).length yB pO.length yC ma names.length mc).cells) rfl (fun w1 hl=>?_) ?_
   ·exact tV rfl (by rfl) (L9 B.of ((fP N).length:Nat) yB ma pO.length yC names.length mc)
   simp only[List.getElem_toArray,List.getElem_cons_zero,List.getElem_cons_succ,Act.put,List.setIfInBounds_toArray,List.set_cons_zero,List.set_cons_succ]
   refine aQ (t:=17) (i:=16) (by kernel_rfl) rfl (fun w1 hl K hK=>?_)
   have hown:=hown.kept hl
   go_simp
   simp only[iY]
   refine hK.out _ _ (fun _=>aj _ _) ?_
   clear hK K
   have hzb:=Box.new w1 Vz.cells 27
   have hzl:=aj w1 (.cells Vz.cells 27)
   replace l0:=Later.trans _ _ _ (Later.trans _ _ _ l0 hl) hzl
   have htb:w3.heap.size≤w1.heap.size:=by have h1:=(HF.out w1 (Later.trans _ _ _ l1 hl)).2.2.2.2.size;exact h1
   have hne:∀ g,(Value.slice ma names.length mc).ownBlock=some g→g≠w1.heap.size:=fun g hg=>by have:=(hown.blk hg).2;omega
   replace hown:=hown.kept hzl
   generalize (w1.alloc (.cells Vz.cells 27))=wz at *
   generalize w1.heap.size=tb at *
   refine aQ (t:=17) (i:=17) (by kernel_rfl) rfl (fun w1 hl K hK=>?_)
   have Qd:=hzb.kept hl
   have hown2:=hown.kept hl
   have l2:=Later.trans _ _ _ l0 hl
   refine eP (by rfl) ?_
   refine wp_store_row 27 _ _ rfl tb _ rfl rfl _ _ Qd (bU _) (au.sizes _ _) (au.all _) ?_
   refine hK.out _ _ (fun h=>absurd rfl h) ?_
   clear hK K
   have hb2:=(HF.out w1 l2).2.2.2.2
   have hfin:=Qd.setRow (pK B.of (fP N).length yB pO.length yC ma names.length mc).cells
   have hown3:Own (w1.setRow tb (pK B.of (fP N).length yB pO.length yC ma names.length mc).cells) _ 9 1 kH (.slice ma names.length mc) names:=hown2.same fun g hg=>setRow_other w1 tb g _ (hne g (by rw[hg]))
   have hbf:=below_setRow hb2 htb (pK B.of (fP N).length yB pO.length yC ma names.length mc).cells
   refine bC (by kernel_rfl) (fun w1 hl=>?_) _
   exact key tb ma mc w1 ⟨hbf.trans (hl.mono hbf.size),htb,hfin.kept hl,(hown3.kept hl).mono hwb⟩
  ·have l1:=l0
   go_simp
   simp only[iY]
   refine hK.out _ _ (fun _=>aj _ _) ?_
   clear hK K
   have hzb:=Box.new w1 Vz.cells 27
   have hzl:=aj w1 (.cells Vz.cells 27)
   replace l0:=Later.trans _ _ _ (Later.trans _ _ _ l0 hl) hzl
   have htb:w3.heap.size≤w1.heap.size:=by have h1:=(HF.out w1 (Later.trans _ _ _ l1 hl)).2.2.2.2.size;exact h1
   generalize (w1.alloc (.cells Vz.cells 27))=wz at *
   generalize w1.heap.size=tb at *
   refine aQ (t:=17) (i:=14) (by kernel_rfl) rfl (fun w1 hl K hK=>?_)
   have hs1:w3.heap.size≤w1.heap.size:=(HF.out w1 (Later.trans _ _ _ l0 hl)).2.2.2.2.size
   have hzb:=hzb.kept hl
   have hzs:=hzb.lt
   go_simp
   refine(HF.out w1 (Later.trans _ _ _ l0 hl)).2.2.2.1.mono ?_
   rintro e wq ⟨ma,mc,rfl,hown,hbq⟩
   refine hK.out _ _ (fun _=>hbq) ?_
   clear hK K
   replace l0:=Later.trans _ _ _ (Later.trans _ _ _ l0 hl) hbq
   have hzb:=hzb.kept hbq
   have hwb:w3.heap.size≤w1.heap.size:=hs1
   have hne:∀ g,(Value.slice ma names.length mc).ownBlock=some g→g≠tb:=fun g hg=>by have:=(hown.blk hg).1;omega
   refine kP 15 (.agg (pK B.of (fP N).length yB pO.length yC ma names.length mc).cells) rfl (fun w1 hl=>?_) ?_
   ·exact tV rfl (by rfl) (L9 B.of ((fP N).length:Nat) yB ma pO.length yC names.length mc)
   simp only[List.getElem_toArray,List.getElem_cons_zero,List.getElem_cons_succ,Act.put,List.setIfInBounds_toArray,List.set_cons_zero,List.set_cons_succ]
   refine aQ (t:=17) (i:=17) (by kernel_rfl) rfl (fun w1 hl K hK=>?_)
   have Qd:=hzb.kept hl
   have hown2:=hown.kept hl
   have l2:=Later.trans _ _ _ l0 hl
   refine eP (by rfl) ?_
   refine wp_store_row 27 _ _ rfl tb _ rfl rfl _ _ Qd (bU _) (au.sizes _ _) (au.all _) ?_
   refine hK.out _ _ (fun h=>absurd rfl h) ?_
   clear hK K
   have hb2:=(HF.out w1 l2).2.2.2.2
   have hfin:=Qd.setRow (pK B.of (fP N).length yB pO.length yC ma names.length mc).cells
   have hown3:Own (w1.setRow tb (pK B.of (fP N).length yB pO.length yC ma names.length mc).cells) _ 9 1 kH (.slice ma names.length mc) names:=hown2.same fun g hg=>setRow_other w1 tb g _ (hne g (by rw[hg]))
   have hbf:=below_setRow hb2 htb (pK B.of (fP N).length yB pO.length yC ma names.length mc).cells
   refine bC (by kernel_rfl) (fun w1 hl=>?_) _
   exact key tb ma mc w1 ⟨hbf.trans (hl.mono hbf.size),htb,hfin.kept hl,(hown3.kept hl).mono hwb⟩
 case rest =>
  intro tb ma mc W hP
  obtain⟨hBW,htb,hbox,Yu⟩:=hP
  have yx:=Ym.out.kept hBW
  obtain⟨ng,hro,hrl,hre⟩:=Ym.out.rows
  obtain⟨sa,sc,hsv⟩:=hro.form
  have x5:W.cell? ⟨bp,260,none⟩=some (.slice sa ng.length sc):=by rw[yx.box.cell,jB,hsv]
  have hbl:=yx.box.lt
  have hbt:=hbox.lt
  rw[hrl] at x5
  rw[hsv] at hro
  obtain⟨m,hm⟩:∃ m,sets.length=m:=⟨_,rfl⟩
  have HMS:=ah hm;have agi:=ah hbox;have aaQ:=ah Yu;have IK:=ah hro;have HRE:=ah hre;have D6:=ah hrl;have nI:=ah hBW;have HIS:=ah yx.yZ
  have hsc:sets.length≤sc:=by have:=hro.open.2.1;omega
  have hsc2:=hro.open.2.2.1
  rw[hm] at x5 hsc hsm
  clear hbox Yu hro hre hrl hBW yx hsv hm
  go_wp2
  clear x5
  go_loopw [51] (fun v wr=>∃ (k:Nat) (la':Option Addr) (FV:Nat),k≤m∧v=.int .i64 k∧Own wr W.heap.size 3 1 encI (.slice la' k FV) ((sets.take k).map (gU N))∧Box wr tb (au.cells { pK B.of (fP N).length yB pO.length yC ma names.length mc with la:=la',ln:=k,lc:=FV }) 27∧cu W.heap.size tb W wr) (fun v _=>m - (intOf v).toNat)
  case atStart=>exact⟨0,none,0,Nat.zero_le _,rfl,Own.nil _ _ _ _ _,agi.out,cu.refl _ _ _⟩
  case round =>
   obtain⟨k,la',FV,hk,rfl,hown,hbx,pJ⟩:=hrel
   have hBr:Below w3.heap.size w3 wr:=pJ.toBelow nI.out (nI.out.size) htb
   by_cases hlt:k<m
   ·have hks:k<sets.length:=by rw[HMS.out];exact hlt
    have hkr:k<ng.length:=by rw[D6.out];exact hks
    obtain⟨ra,rc',hrk,hsi⟩:=HRE.out k hkr hks
    have hO:=IK.out.kept hBr
    obtain⟨_,_,_,g,cur,hga,hgx⟩:=hO.open
    obtain rfl:=hga k hkr
    obtain⟨_,hgb,_,hgc⟩:=hgx (by omega)
    have c0:wr.cell? ⟨g,k,none⟩=some (.slice ra sets[k].length rc'):=by
     have h4:=hgc k hkr 0 (by decide)
     rw[show k*1+0=k by omega,hrk] at h4
     rw[hgb.cell,h4];rfl
    have hgl:=hgb.lt
    have hbox:=(Ym.out.kept hBr).box
    have z0:wr.cell? ⟨bp,0,none⟩=some (.pointer (some ⟨B.m,0,none⟩)):=by rw[hbox.cell,jw]
    have aj3:=hbox.lt
    have hset:=HIS.out _ (List.getElem_mem hks)
    have hmem:∀ x∈sets[k],x<N.states:=fun x hx=>by rw[hset.set.2] at hx;rw[←Ad.out];exact O6 hx
    have hlab:=X9 B.m lb eb kl ke va N ra sets[k].length rc' sets[k] wr (HMA.out.kept hBr) ((hsi.1.kept hBr)) hmem
    have hll:=Jt N sets[k]
    have htk:(sets.take (k+1)).map (gU N)=(sets.take k).map (gU N)++[gU N sets[k]]:=by rw[List.take_succ_eq_append_getElem hks,List.map_append];rfl
    have hlen:((sets.take k).map (gU N)).length=k:=by rw[List.length_map,List.length_take];omega
    have anE:=FD N sets[k] 65
    generalize (sets.take k).map (gU N)=ys at *
    generalize sets[k]=S at *
    generalize mD N S 65=L at *
    generalize gU N S=lab at *
    have htl:=hbx.lt
    have y8:wr.cell? ⟨tb,258,none⟩=some (.slice la' k FV):=by rw[hbx.cell,au.kX]
    have agj:=ah hlab;have wF:=ah htk;have HOW:=ah hown;have FH:=ah hbx;have FW:=ah pJ;have ru:=ah hlen
    have hki:(k:Int)<(m:Int):=by omega
    have hk0:(0:Int)≤(k:Int):=by omega
    have hkm:k≤9223372036854775806:=by omega
    clear hlab htk hown hbx pJ hBr hO hgc hgx hga hgb hbox hset hmem hsi hrk hlen y8
    cases L with
    | nil =>
     dsimp only at hll
     subst hll
     go_wp2_with (first | (go_at_call 149;go_must (refine agj.out.mono ?_;rintro e w5 ⟨la5,lc5,rfl,zi,hb5⟩;have tH:=FH.out.kept hb5;have y8:w5.cell? ⟨tb,258,none⟩=some (.slice la' k FV):=by { rw[tH.cell,au.kX] };have hl5:=tH.lt;have hs5:=hb5.size;have wI:=(HOW.out.kept hb5).kept (aj w5 (.cells #[.int .i64 0] 3));have Ku:=tH.kept (aj w5 (.cells #[.int .i64 0] 3));have hyl:=ru.out)) | (at_builtin;go_must (refine fJ rfl _ _ 24 rfl iJ lU rfl wI ⟨w5.heap.size,0,none⟩ 1 (0) rfl (cZ w5 [.int .i64 (0)] _) (by simp only[maxLen];omega) (by omega) (by rw[World.size_alloc];have:=FW.out.size;omega) ?_;intro a7 c7 w7 iy cO;have lZ:=Ku.grown wI cO hbt;have y9:w7.cell? ⟨tb,258,none⟩=some (.slice la' k FV):=by { rw[lZ.cell,au.kX] };have f9:=lZ.free 258;have l9:=lZ.lt)))
     rw[ru.out] at iy
     have hfin:=lZ.set 258 (.slice a7 (k+1) c7)
     rw[FU] at hfin
     have hk1:cu W.heap.size tb W (w5.alloc (.cells #[.int .i64 (0)] 3)):=(FW.out.trans (cu.below (mb:=tb) hb5 FW.out.size)).trans (cu.below (mb:=tb) (aj _ _) (by have:=FW.out.size;omega))
     have hk2:=hk1.grown wI cO (by rw[World.size_alloc];have:=FW.out.size;omega)
     have hk3:cu W.heap.size tb W (w7.setCell ⟨tb,258,none⟩ (.slice a7 (k+1) c7)):=hk2.trans ⟨rfl,rfl,rfl,Nat.le_of_eq (World.size_setCell _ _ _).symm,fun b _ hn=>heap_setCell_other _ _ _ _ hn⟩
     refine⟨⟨k+1,a7,c7,hlt,by push_cast;rfl,?_,?_,?_⟩,by simp[intOf];omega⟩
     ·rw[wF.out];exact iy.other _ _ hbt
     ·exact hfin
     ·exact hk3
    | cons z L =>
     dsimp only at hll
     subst hll
     have hpos:decide ((0:Int)<(((z::L).length:Nat):Int))=true:=by simp
     obtain⟨nl,hnl⟩:∃ nl,(z::L).length=nl:=⟨_,rfl⟩
     have aao:0<nl:=by rw[←hnl];simp
     have hn0:(0:Int)<(nl:Int):=by omega
     go_wp2_with (first | (go_at_call 149;go_must (refine agj.out.mono ?_;rintro e w5 ⟨la5,lc5,rfl,zi,hb5⟩;have tH:=FH.out.kept hb5;have y8:w5.cell? ⟨tb,258,none⟩=some (.slice la' k FV):=by { rw[tH.cell,au.kX] };have hl5:=tH.lt;obtain⟨_,_,_,g5,akg,akh⟩:=zi.IX;obtain⟨rfl,anF⟩:=akg 0 (by simp);have q0:w5.cell? ⟨g5,0,none⟩=some (.int .i64 (z:Nat)):=akh w5 0 (by simp) rfl;have hs5:=hb5.size;have wI:=(HOW.out.kept hb5).kept (aj w5 (.cells #[.int .i64 (z:Nat)] 3));have Ku:=tH.kept (aj w5 (.cells #[.int .i64 (z:Nat)] 3));have hyl:=ru.out)) | (at_builtin;go_must (refine fJ rfl _ _ 24 rfl iJ lU rfl wI ⟨w5.heap.size,0,none⟩ 1 ((z:Nat)) rfl (cZ w5 [.int .i64 ((z:Nat))] _) (by simp only[maxLen];omega) (by omega) (by rw[World.size_alloc];have:=FW.out.size;omega) ?_;intro a7 c7 w7 iy cO;have lZ:=Ku.grown wI cO hbt;have y9:w7.cell? ⟨tb,258,none⟩=some (.slice la' k FV):=by { rw[lZ.cell,au.kX] };have f9:=lZ.free 258;have l9:=lZ.lt)))
     rw[ru.out] at iy
     have hfin:=lZ.set 258 (.slice a7 (k+1) c7)
     rw[FU] at hfin
     have hk1:cu W.heap.size tb W (w5.alloc (.cells #[.int .i64 (((z:Nat):Int))] 3)):=(FW.out.trans (cu.below (mb:=tb) hb5 FW.out.size)).trans (cu.below (mb:=tb) (aj _ _) (by have:=FW.out.size;omega))
     have hk2:=hk1.grown wI cO (by rw[World.size_alloc];have:=FW.out.size;omega)
     have hk3:cu W.heap.size tb W (w7.setCell ⟨tb,258,none⟩ (.slice a7 (k+1) c7)):=hk2.trans ⟨rfl,rfl,rfl,Nat.le_of_eq (World.size_setCell _ _ _).symm,fun b _ hn=>heap_setCell_other _ _ _ _ hn⟩
     refine⟨⟨k+1,a7,c7,hlt,by push_cast;rfl,?_,?_,?_⟩,by simp[intOf];omega⟩
     ·rw[wF.out];exact iy.other _ _ hbt
     ·exact hfin
     ·exact hk3
   ·obtain rfl:k=m:=by omega
    rw[List.take_of_length_le (by rw[HMS.out];exact Nat.le_refl _)] at hown
    have hR0:=HY3.out.kept hBr
    have hres:=hR0.lt
    obtain⟨V',hV'⟩:∃ V':au,{ pK B.of (fP N).length yB pO.length yC ma names.length mc with la:=la',ln:=k,lc:=FV }=V':=⟨_,rfl⟩
    rw[hV'] at hbx
    have agk:Below w.heap.size w wr:=HB3.out.trans (hBr.mono HB3.out.size)
    have hs3:=HY3.out.lt
    obtain⟨wf,hwf⟩:∃ wf,wr.setRow (w.heap.size+1) V'.cells=wf:=⟨_,rfl⟩
    have hWs:=nI.out.size
    have hwz:wf.heap.size=wr.heap.size:=by rw[←hwf];exact size_setRow _ _ _
    have anG:=hBr.size
    have hsz3:=HB3.out.size
    have hrd:(∀ u:World,(∀ b,w.heap.size≤b→b<wf.heap.size→u.heap[b]?=wf.heap[b]?)→kJ u V' ⟨bf (RL (N.edges.map (·.2.1))),((fP N).length:Nat),next,sets.map (gU N),names⟩)∧V'.of=bf (RL (N.edges.map (·.2.1))):=by
     refine⟨fun u hu=>?_,by rw[←hV'];exact DX.out⟩
     have hso:∀ b,w.heap.size≤b→b<wr.heap.size→b≠w.heap.size+1→u.heap[b]?=wr.heap[b]?:=fun b hb0 hb1 hne=>by rw[hu b hb0 (by rw[hwz];exact hb1),←hwf];exact setRow_other wr _ b _ hne
     have hsame:∀ b,w.heap.size≤b→b<w3.heap.size→b≠w.heap.size+1→u.heap[b]?=w3.heap[b]?:=fun b hb0 hb hne=>(hso b hb0 (by omega) hne).trans (hBr.block b hb)
     clear hwf hu
     subst hV'
     refine⟨DX.out,rfl,?_,?_,pO.map (fun x:Fz=>Value.slice x.1 x.2.1 x.2.2),?_,?_,?_⟩
     ·have h1:Own u W.heap.size 3 1 encI (.slice la' k FV) (sets.map (gU N)):=hown.same fun g hg=>hso g (by have h2:=(hown.blk hg).1;omega) (hown.blk hg).2 (by have h2:=(hown.blk hg).1;omega)
      exact h1.slice lU
     ·have h1:Own u w3.heap.size 9 1 kH (.slice ma names.length mc) names:=aaQ.out.same fun g hg=>by
       obtain⟨h2,h3⟩:=aaQ.out.blk hg
       rw[hso g (by omega) (by have:=pJ.size;omega) (by omega)]
       refine pJ.block g h3 fun e=>?_
       obtain⟨_,c2,b2⟩:=aaQ.out.block g hg
       rw[e] at b2
       exact absurd (b2.jC agi.out) (by decide)
      exact h1.slice xq
     ·have h1:=akd.out
      rw[HNV.out] at h1
      have h2:Own u base 24 1 vG (.slice yB pO.length yC) pO:=h1.same fun g hg=>hsame g (by have h2:=(h1.blk hg).1;have:=akf.out;have:=hb2.size;omega) (h1.blk hg).2 fun e=>by
       obtain⟨_,c2,b2⟩:=h1.block g hg
       rw[e] at b2
       exact absurd (b2.jC HY3.out) (by decide)
      exact(h2.slice yg).slV
     ·rw[List.length_map];exact Fb.out
     ·intro i h1 h2
      rw[List.length_map] at h1
      obtain⟨a,c,m1,m2⟩:=ake.out i h1 h2
      refine⟨a,c,by rw[List.getElem_map,m1],m2.1.Au fun ad e hlt=>hsame _ (by have h3:=U5.out ad.block (m2.2 ad _ _ (by rw[e]));have h4:=hy2.lt;omega) hlt ?_⟩
      have h3:=U5.out ad.block (m2.2 ad _ _ (by rw[e]))
      have h4:=hy2.lt
      omega
    have SX:=ah hrd;have aki:=ah hbx;have akj:=ah agk
    rw[←hwf] at SX
    have hfin:=hR0.setRow V'.cells
    clear hown hrd hbx agk hBr hV' pJ hwf
    go_wp2_with (first | (refine dL (by rfl) 27 _ rfl tb rfl _ _ _ _ aki.out Tryz.underlying27 rfl (bU _) ?_) | (refine wpList_store_row rfl 27 _ _ rfl (w.heap.size+1) _ rfl rfl _ _ hR0 (bU _) (au.sizes _ _) (au.all _) ?_))
    refine bodyPost_ret (fQ rfl _ _ (w.heap.size+1) 27 _ (.int .i64 0) rfl rfl hfin Tryz.underlying27 rfl (bU _)) rfl ?_
    exact⟨below_setRow akj.out (by omega) _,V',rfl,SX.out.1,SX.out.2⟩
end
section
open Go.RowKit
theorem agl(N:Nf)(V:Y3)(names:List (List UInt8))(na:Option Addr)(nc most:Nat)(w:World)(h:qE w N V)(hw:N.wf)(h0:0<N.states)(hs:N.states≤65536)(hn:ak w (.slice na names.length nc) 1 kH names)(hnl:∀ x∈names,x.length≤9223372036854775807)
  (hlk:N.links.length≤1099511627776) (he:N.edges.length≤65536) (hm1:1≤most) (hm2:most≤65536) (hT:Tab w) (h64:names.length≤1099511627776) :
  Calls Tryz.prog 101 #[.agg (bZ N V),.slice na names.length nc,.int .i64 most] w (yA w (Aw N names most)):=by
 unfold Aw
 by_cases hy:vZ N names=true
 ·rw[if_pos hy]
  cases hb:ji N most (fP N) (most+1) 0 [fA N [0]] [] with
  | none=>exact Vo N V names na nc most w h hw h0 hs hn hnl hlk he hm1 hm2 hT hy hb
  | some r=>exact Yt N V names na nc most w h hw h0 hs hn hnl hlk he hm1 hm2 hT hy h64 r.1 r.2 hb
 ·rw[if_neg hy]
  exact Yr N V names na nc most w h hw h0 hs hn hnl (by simpa using hy)
def yD(L:List (List UInt8×Tr))(most:Nat):Sum Nat aF:=if qo L=true then (if oz (L.map (·.2))≤65536 then Aw (qA (L.map (·.2))) (L.map (·.1)) most else .inl 7) else .inl 6
theorem Rj{L:List (List UInt8×Tr)}(h:qo L=true):L.length≤64∧∀ x∈L,iw x.2=true:=by
 unfold qo nV at h
 simp only[Bool.and_eq_true,decide_eq_true_eq,List.all_eq_true] at h
 refine⟨h.1,fun x hx=>?_⟩
 obtain⟨i,hi,rfl⟩:=List.mem_iff_getElem.1 hx
 have:=h.2 i (List.mem_range.2 hi)
 unfold yh at this
 rw[List.getElem?_eq_getElem hi] at this
 simp only[Bool.and_eq_true] at this
 exact this.2
theorem Qe(Rs:List (List UInt8×Vt))(a:Option Addr)(n cap most:Nat)(w:World)(h:ak w (.slice a n cap) 9 iD Rs)(hL:∀ i (h:i<Rs.length),Lies w Rs[i].2)(hnm:∀ x∈Rs,x.1.length≤9223372036854775807)(hno:qo (Rs.map wJ)=false) :
  Calls Tryz.prog 57 #[.slice a n cap,.int .i64 most] w (yA w (.inl 6)):=by
 have hb0:=aj w (.cells Vz.cells 27)
 have hy0:=Box.new w Vz.cells 27
 have HR:=ah (fun u (hu:Below w.heap.size w u)=>hno▸Ja a cap n Rs u (h.kept hu) (fun i hi=>(hL i hi).kept hu) hnm)
 have hsz:Vz.cells.size=260:=au.size _
 clear h hL hnm hno
 obtain⟨W1,hW1⟩:∃ W1,w.alloc (.cells Vz.cells 27)=W1:=⟨_,rfl⟩
 rw[hW1] at hb0 hy0
 have HW1:=ah hW1
 clear hW1
 go_enter Tryz.func57,Tryz.ntmps57
 go_wp2_with fail
 simp only[iY,HW1.out]
 refine(HR.out _ hb0).mono ?_
 rintro e w2 ⟨rfl,hb2⟩
 have hy2:=hy0.kept hb2
 go_wp2_with (first | (simp only[iY];refine wpList_store_row rfl 27 _ _ rfl w.heap.size _ rfl rfl _ _ hy2 (bU _) rfl (au.all _) ?_))
 have hfin:=hy2.setRow Vz.cells
 refine bodyPost_ret (fQ rfl _ _ w.heap.size 27 _ (.int .i64 6) rfl rfl hfin Tryz.underlying27 rfl (bU _)) rfl ?_
 exact⟨below_setRow (hb0.trans (hb2.mono hb0.size)) (Nat.le_refl _) _,rfl⟩
theorem MO(Rs:List (List UInt8×Vt))(a:Option Addr)(n cap most:Nat)(w:World)(h:ak w (.slice a n cap) 9 iD Rs)(hL:∀ i (h:i<Rs.length),Lies w Rs[i].2)(hnm:∀ x∈Rs,x.1.length≤9223372036854775807)(hyes:qo (Rs.map wJ)=true)(hT:Tab w)(hm1:1≤most)(hm2:most≤65536) :
  Calls Tryz.prog 57 #[.slice a n cap,.int .i64 most] w (yA w (if oz (Rs.map fun x=>x.2.tr)≤65536 then Aw (qA (Rs.map fun x=>x.2.tr)) (Rs.map (·.1)) most else .inl 7)):=by
 obtain⟨aaR,hall⟩:=Rj hyes
 rw[List.length_map] at aaR
 have hright:∀ x∈Rs,iw x.2.tr=true:=fun x hx=>hall (wJ x) (List.mem_map.2 ⟨x,hx,rfl⟩)
 have hb0:=aj w (.cells Vz.cells 27)
 have hy0:=Box.new w Vz.cells 27
 have HR:=ah (fun u (hu:Below w.heap.size w u)=>hyes▸Ja a cap n Rs u (h.kept hu) (fun i hi=>(hL i hi).kept hu) hnm)
 have hsz:Vz.cells.size=260:=au.size _
 obtain⟨b,o,hn,hcap,hcap2,ha,hx⟩:=h.open
 have HX:=ah hx;have HA:=ah ha;have HN:=ah hn;have HL:=ah hL;have vV:=ah hnm;have KY:=ah hright;have XT:=ah hT;have H64:=ah aaR
 have o8:n≤64:=by omega
 obtain⟨bodies,aaS⟩:∃ l,Rs.map (·.2)=l:=⟨_,rfl⟩
 obtain⟨names,aaT⟩:∃ l,Rs.map (·.1)=l:=⟨_,rfl⟩
 have agm:(Rs.map fun x=>x.2.tr)=bodies.map Vt.tr:=by rw[←aaS,List.map_map];rfl
 rw[agm,aaT]
 obtain⟨ANS,hA⟩:∃ ANS,(if oz (bodies.map Vt.tr)≤65536 then Aw (qA (bodies.map Vt.tr)) names most else .inl 7)=ANS:=⟨_,rfl⟩
 rw[hA]
 have jR:=ah hA
 clear hA
 have DX:=ah aaS;have um:=ah aaT
 clear h hL hnm hyes hx ha hn hright hT hall aaR aaS aaT agm
 obtain⟨W1,hW1⟩:∃ W1,w.alloc (.cells Vz.cells 27)=W1:=⟨_,rfl⟩
 rw[hW1] at hb0 hy0
 have HW1:=ah hW1
 clear hW1
 go_enter Tryz.func57,Tryz.ntmps57
 go_wp2_with fail
 simp only[iY,HW1.out]
 refine(HR.out _ hb0).mono ?_
 rintro e w2 ⟨rfl,hb2⟩
 go_wp2
 have hB2:=hb0.trans (hb2.mono hb0.size)
 have hy2:=hy0.kept hb2
 have HB2:=ah hB2;have HY2:=ah hy2
 clear hB2 hy2 hb2 hb0 hy0 HR
 go_loopw [6,7,18] (fun v6 v7 v18 wr=>∃ (k:Nat) (aB:Option Addr) (qB cB:Nat) (aN:Option Addr) (qN cN:Nat),k≤n∧v18=.int .i64 k∧v6=.slice aB qB cB∧v7=.slice aN qN cN∧Own wr w2.heap.size 151 8 Vt.cells (.slice aB qB cB) (bodies.take k)∧Own wr w2.heap.size 9 1 kH (.slice aN qN cN) (names.take k)∧Below w2.heap.size w2 wr) (fun _ _ v18 _=>n - (intOf v18).toNat)
 case atStart=>exact⟨0,none,0,0,none,0,0,Nat.zero_le _,rfl,rfl,rfl,Own.nil _ _ _ _ _,Own.nil _ _ _ _ _,Below.refl _ _⟩
 case round =>
  obtain⟨k,aB,qB,cB,aN,qN,cN,hk,rfl,rfl,rfl,hob,hon,hB⟩:=hrel
  have hBw:Below w.heap.size w wr:=HB2.out.trans (hB.mono HB2.out.size)
  by_cases hlt:k<n
  ·have hk2:k<Rs.length:=by rw[←HN.out];exact hlt
   obtain rfl:=HA.out k hk2
   have hy:∀ j u,(iD Rs[k])[j]?=some u→wr.cell? ⟨b,o+k*9+j,none⟩=some u:=fun j u hu=>by
    have:=HX.out k hk2 j u hu
    rw[hBw.cell (World.block_lt_of_cell? w _ this)];exact this
   have htb:bodies.take (k+1)=bodies.take k++[Rs[k].2]:=by
    rw[←DX.out,←List.map_take,←List.map_take,List.take_succ_eq_append_getElem hk2,List.map_append];rfl
   have htn:names.take (k+1)=names.take k++[Rs[k].1]:=by
    rw[←um.out,←List.map_take,←List.map_take,List.take_succ_eq_append_getElem hk2,List.map_append];rfl
   have hlb:(bodies.take k).length≤k:=List.length_take_le _ _
   have hln:(names.take k).length≤k:=List.length_take_le _ _
   generalize bodies.take k=bk at *
   generalize names.take k=nk at *
   generalize Rs[k]=x at *
   obtain⟨nm,⟨k5,s5,a5,cp5,bI,bJ,hi5⟩⟩:=x
   have y0:=hy 0 _ rfl
   have y1:=hy 1 _ rfl
   have y2:=hy 2 _ rfl
   have y3:=hy 3 _ rfl
   have y4:=hy 4 _ rfl
   have y5:=hy 5 _ rfl
   have y6:=hy 6 _ rfl
   have y7:=hy 7 _ rfl
   have y8:=hy 8 _ rfl
   have hbl:=World.block_lt_of_cell? wr _ y0
   simp only[Nat.add_zero] at y0
   have hki:(k:Int)<(n:Int):=by omega
   have hk0:(0:Int)≤(k:Int):=by omega
   obtain⟨R9,hR9⟩:∃ R9:Array Value,#[sv nm,.int .i64 k5,.int .u64 (word s5 0:Nat),.int .u64 (word s5 1:Nat),.int .u64 (word s5 2:Nat),.int .u64 (word s5 3:Nat),.slice a5 bI.length cp5,.int .i64 bJ,.int .i64 hi5]=R9:=⟨_,rfl⟩
   have hq1:=hob.open.1
   have hq2:=hon.open.1
   have hB1:=aj wr (.cells #[sv nm,.int .i64 k5,.int .u64 (word s5 0:Nat),.int .u64 (word s5 1:Nat),.int .u64 (word s5 2:Nat),.int .u64 (word s5 3:Nat),.slice a5 bI.length cp5,.int .i64 bJ,.int .i64 hi5] 153)
   have aaU:=hob.kept hB1
   have akk:=hon.kept hB1
   have hbox:=Box.new wr #[sv nm,.int .i64 k5,.int .u64 (word s5 0:Nat),.int .u64 (word s5 1:Nat),.int .u64 (word s5 2:Nat),.int .u64 (word s5 3:Nat),.slice a5 bI.length cp5,.int .i64 bJ,.int .i64 hi5] 153
   have Kt:=hB.trans (hB1.mono hB.size)
   have akl:=ah htb;have HTN:=ah htn;have HOB:=ah hob;have Fq:=ah hon;have HQ1:=ah hq1;have HQ2:=ah hq2;have HBB:=ah hB
   have hbs:=hB.size
   clear hy htb htn hob hon hq1 hq2 hB hBw hR9
   go_wp2_with (first | (at_builtin;(refine fJ rfl _ _ 145 rfl CZ Bc rfl (aaU.alloc _) ⟨wr.heap.size+1,0,none⟩ 1 (Vt.mk k5 s5 a5 cp5 bI bJ hi5) rfl (by rw[←World.size_alloc wr (.cells #[sv nm,.int .i64 k5,.int .u64 (word s5 0:Nat),.int .u64 (word s5 1:Nat),.int .u64 (word s5 2:Nat),.int .u64 (word s5 3:Nat),.slice a5 bI.length cp5,.int .i64 bJ,.int .i64 hi5] 153)];exact cZ _ (Vt.cells (Vt.mk k5 s5 a5 cp5 bI bJ hi5)) _) (by simp only[maxLen];omega) (by omega) (by simp only[World.size_alloc];omega) ?_;intro a7 c7 w7 iy cO;have hbk:=(cO.block wr.heap.size (by simp only[World.size_alloc];omega) (fun e'=>by { have:=(HOB.out.blk e'.symm).2;omega })).trans (hbox.kept (aj _ (.cells (Vt.cells (Vt.mk k5 s5 a5 cp5 bI bJ hi5)).toArray 151)));have z0:w7.cell? ⟨wr.heap.size,0,none⟩=some (sv nm):=Box.cell hbk 0;have lz:=Box.lt hbk;have aaV:=(akk.alloc (.cells (Vt.cells (Vt.mk k5 s5 a5 cp5 bI bJ hi5)).toArray 151)).iG (aaU.alloc _) cO (by decide))) | (at_builtin;go_must (refine fJ rfl _ _ 25 rfl Ld xq rfl (aaV.alloc _) ⟨w7.heap.size,0,none⟩ 1 nm rfl (cZ w7 [sv nm] _) (by simp only[maxLen];omega) (by omega) (by have:=cO.size;simp only[World.size_alloc] at *;omega) ?_;intro a9 c9 w9 ho9 Yv)))
   have akm:=(iy.alloc (.cells #[sv nm] 9)).iG (aaV.alloc _) Yv (by decide)
   have hs7:=cO.size
   have hBc:=Kt.alloc Kt.size (.cells (Vt.cells (Vt.mk k5 s5 a5 cp5 bI bJ hi5)).toArray 151)
   have sK:=below_grown hBc (aaU.alloc _) cO (Nat.le_refl _) hBc.size
   have yw:=sK.alloc sK.size (.cells #[sv nm] 9)
   have mQ:=below_grown yw (aaV.alloc _) Yv (Nat.le_refl _) yw.size
   exact⟨⟨k+1,a7,_,c7,a9,_,c9,hlt,by push_cast;rfl,rfl,rfl,by rw[akl.out];exact akm,by rw[HTN.out];exact ho9,mQ⟩,by simp[intOf];omega⟩
  ·obtain rfl:k=n:=by omega
   have hkb:bodies.take k=bodies:=List.take_of_length_le (by rw[←DX.out,List.length_map,HN.out];exact Nat.le_refl _)
   have hkn:names.take k=names:=List.take_of_length_le (by rw[←um.out,List.length_map,HN.out];exact Nat.le_refl _)
   rw[hkb] at hob
   rw[hkn] at hon
   have hq1:=hob.open.1
   have hq2:=hon.open.1
   subst hq1
   subst hq2
   have hlies:∀ i (h:i<bodies.length),Lies wr bodies[i]:=fun i hi=>by
    have hi2:i<Rs.length:=by rw[←DX.out,List.length_map] at hi;exact hi
    have e:bodies[i]=Rs[i].2:=by simp only[←DX.out,List.getElem_map]
    rw[e];exact(HL.out i hi2).kept hBw
   have hrt:∀ x∈bodies,iw x.tr=true:=fun x hx=>by
    rw[←DX.out] at hx
    obtain⟨y,hy,rfl⟩:=List.mem_map.1 hx
    exact KY.out y hy
   have hb64:bodies.length≤64:=by rw[←DX.out,List.length_map];exact H64.out
   have amS:names.length≤64:=by rw[←um.out,List.length_map];exact H64.out
   have agn:=afd bodies aB cB wr (hob.slice Bc) hlies (fun i hi=>hrt _ (List.getElem_mem hi)) hb64
   have OV:∀ x∈names,x.length≤9223372036854775807:=fun x hx=>by
    rw[←um.out] at hx
    obtain⟨y,hy,rfl⟩:=List.mem_map.1 hx
    exact vV.out y hy
   have agp:∀ x∈bodies.map Vt.tr,iw x=true:=fun x hx=>by
    obtain⟨y,hy,rfl⟩:=List.mem_map.1 hx
    exact hrt y hy
   have hok:=acL (bodies.map Vt.tr) (by rw[List.length_map];exact hb64)
   have hsm:=Jj (bodies.map Vt.tr) agp
   have FH:=ah (HY2.out.kept hB);have nI:=ah hBw;have Fq:=ah hon;have yO:=ah hok;have uo:=ah hsm;have IB:=ah agn;have akn:=ah OV
   have HTW:=ah (XT.out.kept hBw)
   clear hob hon hB hlies hrt agn agp hok hsm OV hBw hkb hkn
   by_cases hbig:oz (bodies.map Vt.tr)≤65536
   ·obtain⟨hg1,hg2,hg3,hg4⟩:=uo.out hbig
    obtain⟨hwf,tu⟩:=yO.out
    have hst:(qA (bodies.map Vt.tr)).states≤65536:=by unfold qA;rw[hwf.st];exact hg2
    have hans:=jR.out
    rw[if_pos hbig] at hans
    have hof:=fun(V:Y3) (u:World) (hu:Below wr.heap.size wr u) (hA:qE u (qA (bodies.map Vt.tr)) V)=>agl (qA (bodies.map Vt.tr)) V names aN cN most u hA hwf tu hst ((Fq.out.kept hu).slice xq) akn.out (by unfold qA;omega) hg3 hm1 hm2 (HTW.out.kept hu) (by omega)
    rw[hans] at hof
    have EY:=ah hof
    have hnf:Calls Tryz.prog 100 #[.slice aB bodies.length cB] wr fun e w'=>Below wr.heap.size wr w'∧∃ V,qE w' (qA (bodies.map Vt.tr)) V∧e=.returned (.tuple #[.agg (bZ (qA (bodies.map Vt.tr)) V),.int .i64 0]):=IB.out.mono fun e w' h=>⟨h.1,by have:=h.2;rwa[if_pos hbig] at this⟩
    have Vp:=ah hnf
    clear hnf hof hans IB uo yO hbig hg1 hg2 hg3 hg4 hwf tu hst
    generalize qA (bodies.map Vt.tr)=NN at *
    go_wp2_with fail
    refine Vp.out.mono ?_
    rintro e w4 ⟨hb4,V,hA,rfl⟩
    have agq:=EY.out V _ (hb4.alloc hb4.size (.cells (bZ NN V) 157)) (hA.kept (aj w4 (.cells (bZ NN V) 157)))
    have hB4:=nI.out.trans ((hb4.alloc hb4.size (.cells (bZ NN V) 157)).mono nI.out.size)
    have hy4:=FH.out.kept (hb4.alloc hb4.size (.cells (bZ NN V) 157))
    obtain⟨vl,ve,va⟩:=V
    obtain⟨la,lc,hvl⟩:=hA.li.form
    obtain⟨ea,ec,kL⟩:=hA.ed.form
    obtain⟨aa,ac,hva⟩:=hA.ac.form
    dsimp only at hvl kL hva
    subst hvl
    subst kL
    subst hva
    unfold bZ at *
    dsimp only at *
    have SY:=ah agq;have HB4:=ah hB4;have HY4:=ah hy4
    clear agq hB4 hy4 hA hb4 EY Vp
    cases ANS with
    | inl c =>
     go_wp2_with (first | (go_at_call 101;go_must (refine SY.out.mono ?_;rintro e w5 ⟨hb5,rfl⟩;have Yw:=HY4.out.kept hb5)) | (refine wpList_store_row rfl 27 _ _ rfl w.heap.size _ rfl rfl _ _ Yw (bU _) (au.sizes _ _) (au.all _) ?_))
     have hfin:=Yw.setRow Vz.cells
     refine bodyPost_ret (fQ rfl _ _ w.heap.size 27 _ (.int .i64 c) rfl rfl hfin Tryz.underlying27 rfl (bU _)) rfl ?_
     exact⟨below_setRow (HB4.out.trans (hb5.mono HB4.out.size)) (Nat.le_refl _) _,rfl⟩
    | inr D =>
     go_wp2_with (first | (go_at_call 101;go_must (refine SY.out.mono ?_;rintro e w5 ⟨hb5,V',rfl,hrd,ako⟩;have Yw:=HY4.out.kept hb5)) | (refine wpList_store_row rfl 27 _ _ rfl w.heap.size _ rfl rfl _ _ Yw (bU _) (au.sizes _ _) (au.all _) ?_))
     have hfin:=Yw.setRow V'.cells
     refine bodyPost_ret (fQ rfl _ _ w.heap.size 27 _ (.int .i64 0) rfl rfl hfin Tryz.underlying27 rfl (bU _)) rfl ?_
     refine⟨below_setRow (HB4.out.trans (hb5.mono HB4.out.size)) (Nat.le_refl _) _,V',rfl,fun u hu=>hrd u (fun b hb1 hb2=>?_),ako⟩
     have hlt:=HY4.out.lt
     have hne:b≠w.heap.size:=by have:=HB4.out.size;omega
     have hge:w.heap.size≤b:=by have:=HB4.out.size;omega
     rw[hu b hge (by rw[size_setRow];exact hb2)]
     exact setRow_other w5 _ b _ hne
   ·have hnf:Calls Tryz.prog 100 #[.slice aB bodies.length cB] wr fun e w'=>Below wr.heap.size wr w'∧e=.returned (.tuple #[.agg #[.int .i64 0,.int .i64 0,.slice none 0 0,.slice none 0 0,.slice none 0 0],.int .i64 7]):=IB.out.mono fun e w' h=>⟨h.1,by have:=h.2;rwa[if_neg hbig] at this⟩
    have Vp:=ah hnf
    have hans:=jR.out
    rw[if_neg hbig] at hans
    subst hans
    clear hnf IB uo yO hbig jR
    go_wp2_with (first | (go_at_call 100;go_must (refine Vp.out.mono ?_;rintro e w4 ⟨hb4,rfl⟩;have hy4:=(FH.out.kept hb4).kept (aj w4 (.cells #[.int .i64 0,.int .i64 0,.slice none 0 0,.slice none 0 0,.slice none 0 0] 157)))) | (simp only[iY];refine wpList_store_row rfl 27 _ _ rfl w.heap.size _ rfl rfl _ _ hy4 (bU _) (au.sizes _ _) (au.all _) ?_))
    have hfin:=hy4.setRow Vz.cells
    refine bodyPost_ret (fQ rfl _ _ w.heap.size 27 _ (.int .i64 7) rfl rfl hfin Tryz.underlying27 rfl (bU _)) rfl ?_
    exact⟨below_setRow (nI.out.trans ((hb4.alloc hb4.size _).mono nI.out.size)) (Nat.le_refl _) _,rfl⟩
theorem Yx(Rs:List (List UInt8×Vt))(a:Option Addr)(n cap most:Nat)(w:World)(h:ak w (.slice a n cap) 9 iD Rs)(hL:∀ i (h:i<Rs.length),Lies w Rs[i].2)(hnm:∀ x∈Rs,x.1.length≤9223372036854775807)(hT:Tab w)(hm1:1≤most)(hm2:most≤65536) :
  Calls Tryz.prog 57 #[.slice a n cap,.int .i64 most] w (yA w (yD (Rs.map wJ) most)):=by
 unfold yD
 by_cases hr:qo (Rs.map wJ)=true
 ·rw[if_pos hr,List.map_map,List.map_map]
  exact MO Rs a n cap most w h hL hnm hr hT hm1 hm2
 ·rw[if_neg hr]
  exact Qe Rs a n cap most w h hL hnm (by simpa using hr)
end
section
open Go.RowKit
def sC(V:au)(t:List Value):Array Value:=V.cells++t.toArray
theorem Ky(V:au)(t:List Value):(sC V t).size=260+t.length:=by unfold sC;rw[Array.size_append,au.size,List.size_toArray]
theorem tY(V:au)(t:List Value)(i:Nat)(h:i<260):(sC V t)[i]?=V.cells[i]?:=by
 unfold sC
 rw[Array.getElem?_append_left (by rw[au.size];exact h)]
theorem zo(V:au)(t:List Value)(k:Nat):(sC V t)[260+k]?=t[k]?:=by
 unfold sC
 rw[Array.getElem?_append_right (by rw[au.size];exact Nat.le_add_right _ _),au.size,Nat.add_sub_cancel_left,List.getElem?_toArray]
theorem ags(V:au)(t:List Value)(k:Nat)(v:Value):(sC V t).setIfInBounds (260+k) v=sC V (t.set k v):=by
 apply Array.ext_getElem?
 intro i
 rw[Array.getElem?_setIfInBounds,Ky]
 by_cases h:260+k=i
 ·subst h
  rw[if_pos rfl,zo,List.getElem?_set,if_pos rfl]
  by_cases h2:k<t.length
  ·rw[if_pos (by omega),if_pos h2]
  ·rw[if_neg (by omega),if_neg h2]
 ·rw[if_neg h]
  by_cases h2:i<260
  ·rw[tY _ _ _ h2,tY _ _ _ h2]
  ·obtain⟨j,rfl⟩:∃ j,i=260+j:=⟨i - 260,by omega⟩
   rw[zo,zo,List.getElem?_set,if_neg (by omega)]
theorem Box.oh{w:World}{b E:Nat}{V:au}{t:List Value}(h:Box w b (sC V t) E)(k:Nat)(v:Value):Box (w.setCell ⟨b,260+k,none⟩ v) b (sC V (t.set k v)) E:=by
 have:=h.set (260+k) v
 rwa[ags] at this
theorem Box.fV{w:World}{b E:Nat}{V:au}{t:List Value}(h:Box w b (sC V t) E)(k:Nat):w.cell? ⟨b,260+k,none⟩=t[k]?:=(h.cell _).trans (zo V t k)
structure zq(R:World→Prop)(V:au)(D:aF)(n wd lb lo nb no vb:Nat)(rb ro rc:Nat→Nat):Prop where
 nl:D.label.length=n
 vof:V.of=D.of
 ln:V.ln=n
 nn:V.nn=n
 la:V.la=some ⟨lb,lo,none⟩
 na:V.na=some ⟨nb,no,none⟩
 Lm:1≤n∧n≤65536
 Xx:1≤wd∧wd≤256
 lc:n≤V.lc∧V.lc≤9223372036854775807
 nc:n≤V.nc∧V.nc≤9223372036854775807
 lab:∀ k,k<n→∀ u:World,R u→u.cell? ⟨lb,lo+k,none⟩=some (.int .i64 (labS D k))
 row:∀ s,s<n→∀ u:World,R u→u.cell? ⟨nb,no+s,none⟩=some (.slice (some ⟨rb s,ro s,none⟩) wd (rc s))
 cap:∀ s,s<n→wd≤rc s∧rc s≤9223372036854775807
 Xy:∀ s,s<n→∀ j,j<wd→∀ u:World,R u→u.cell? ⟨rb s,ro s+j,none⟩=some (.int .i64 (stepD D s j:Nat))
 lt:∀ s,s<n→∀ j,j<wd→stepD D s j<n
 of:∀ b,b<256→D.of b<wd
 liv:∀ k,k<n→∀ u:World,R u→u.cell? ⟨vb,k,none⟩=some (.bool (gV D k))
def Mid(sb top:Nat)(w0 u:World):Prop:=top≤u.heap.size∧∀ b,sb<b→b<top→u.heap[b]?=w0.heap[b]?
theorem Mid.only{sb top:Nat}{w0 u u':World}(h:Mid sb top w0 u)(k:aP sb u u'):Mid sb top w0 u':=⟨Nat.le_trans h.1 k.size,fun b h1 h2=>(k.block b (Nat.lt_of_lt_of_le h2 h.1) (Nat.ne_of_gt h1)).trans (h.2 b h1 h2)⟩
theorem Mid.later{sb top:Nat}{w0 u u':World}(h:Mid sb top w0 u)(k:Below u.heap.size u u'):Mid sb top w0 u':=h.only (aP.below k)
def gG(s:Nat)(r:Int×Nat):List Value:=[.int .i64 s,.int .i64 r.1,.int .i64 r.2]
def EN(D:aF)(s' m:Nat)(r:Int×Nat):Int×Nat:=if labS D s'=0 then r else (labS D s',m)
theorem adt(sb top vb:Nat)(V:au)(D:aF)(w0 w:World)(n wd lb lo nb no:Nat)(rb ro rc:Nat→Nat)(hM:zq (Mid sb top w0) V D n wd lb lo nb no vb rb ro rc)(hB:Mid sb top w0 w)(c:Nat)
  (s:Nat) (r:Int×Nat) (x:List Value) (hx:x.length=5) (hb:Box w sb (sC V (.slice (some ⟨vb,0,none⟩) n n::gG s r++x)) 123) (hs:s<n) (b:UInt8) (m:Nat) :
  Calls Tryz.prog 167 #[.pointer (some ⟨sb,0,none⟩),.int .u8 (b.toNat:Nat),.int .i64 m] w fun e w'=>e=.returned (.bool (gV D (mV D s b)))∧Box w' sb (sC V (.slice (some ⟨vb,0,none⟩) n n::gG (mV D s b) (EN D (mV D s b) m r)++x)) 123∧aP sb w w':=by
 obtain⟨k,bt⟩:=r
 have hbn:=b.toNat_lt
 obtain⟨s',hs'⟩:∃ s',mV D s b=s':=⟨_,rfl⟩
 have hn1:s'<n:=by rw[←hs'];exact hM.lt s hs _ (hM.of _ hbn)
 have aaW:=hM.Xy s hs _ (hM.of _ hbn)
 rw[show stepD D s (D.of b.toNat)=s' from hs'] at aaW
 have hd:D.of b.toNat<wd:=hM.of _ hbn
 have agt:(sC V (.slice (some ⟨vb,0,none⟩) n n::gG s (k,bt)++x))[b.toNat]?=some (.int .u8 (D.of b.toNat:Nat)):=by rw[tY _ _ _ (by omega),V.DJ _ hbn,hM.vof]
 have agu:(sC V (.slice (some ⟨vb,0,none⟩) n n::gG s (k,bt)++x))[257]?=some (.slice (some ⟨nb,no,none⟩) n V.nc):=by rw[tY _ _ _ (by decide),V.uI,hM.na,hM.nn]
 have hcap:=hM.cap s hs
 have hnc:=hM.nc;have hlc:=hM.lc
 have HF:Hid (∀ u,Later w.drew u→Box u sb (sC V (.slice (some ⟨vb,0,none⟩) n n::gG s (k,bt)++x)) 123∧u.cell? ⟨sb,261,none⟩=some (.int .i64 s)∧u.cell? ⟨sb,b.toNat,none⟩=some (.int .u8 (D.of b.toNat:Nat))∧u.cell? ⟨sb,257,none⟩=some (.slice (some ⟨nb,no,none⟩) n V.nc) ∧
   u.cell? ⟨nb,no+s,none⟩=some (.slice (some ⟨rb s,ro s,none⟩) wd (rc s))∧u.cell? ⟨rb s,ro s+D.of b.toNat,none⟩=some (.int .i64 (s':Nat))∧Below w.heap.size w u):=ah fun u hu=>by
  have h1:Below w.heap.size w u:=((Below.refl _ _).drew).trans (hu.mono (Nat.le_refl _))
  have hb2:=hb.kept h1
  exact⟨hb2,hb2.fV 1,(hb2.cell _).trans agt,(hb2.cell _).trans agu,hM.row s hs u (hB.later h1),aaW u (hB.later h1),h1⟩
 have HM:=ah hM;have HB:=ah hB;have HS:=ah hs'
 rw[hs']
 have hsi:(s:Int)<(n:Int):=by omega
 have hs0:(0:Int)≤(s:Int):=by omega
 have hbi:((b.toNat:Nat):Int)<256:=by omega
 have hdi:((D.of b.toNat:Nat):Int)<(wd:Int):=by omega
 clear hM hB hb aaW agt agu hs'
 generalize D.of b.toNat=d at *
 generalize b.toNat=bn at *
 go_enter Tryz.func167,Tryz.ntmps167
 go_wp2_with fail
 refine aW (R:=Later) 23 (by kernel_rfl) ?_
 refine pl [0,1,2,3,4,5,6,7,8,9,10,11,12,13,14,15,16,17,18,19,20,21,22] ?_
 repeat
  refine jW ?_ rfl (fun w1 hl=>?_) ?_
  rotate_left
  ·obtain⟨hbx,q0,q1,q2,q3,q4,_⟩:=HF.out w1 hl;have l0:=hbx.lt;have l1:=World.block_lt_of_cell? w1 _ q3;have l2:=World.block_lt_of_cell? w1 _ q4;go_simp;try with_reducible rfl
  simp only[eA,eB,eC,Act.put,eD,eE,eF]
 refine eX ?_
 refine aQ (t:=23) (i:=23) (by kernel_rfl) rfl (fun w1 hl K hK=>?_)
 obtain⟨hbx,q0,q1,q2,q3,q4,hB1⟩:=HF.out w1 hl
 have l0:=hbx.lt
 have f0:=hbx.free 261
 clear hl HF
 go_simp
 refine hK.out _ _ (fun h=>absurd rfl h) ?_
 clear hK K q0 q1 q2 q3 q4 l0 f0
 have hb2:Box (w1.setCell ⟨sb,261,none⟩ (.int .i64 (s':Nat))) sb (sC V (.slice (some ⟨vb,0,none⟩) n n::gG s' (k,bt)++x)) 123:=hbx.oh 1 _
 have hO2:=(aP.below (g:=sb) hB1).set 261 (.int .i64 (s':Nat))
 clear hbx hB1
 generalize w1.setCell ⟨sb,261,none⟩ (.int .i64 (s':Nat))=w2 at *
 refine bC (by kernel_rfl) (fun w1 hl=>?_) _
 have hb3:=hb2.kept hl
 have hO3:=hO2.trans (aP.below hl)
 clear hb2 hO2 hl
 have agv:(sC V (.slice (some ⟨vb,0,none⟩) n n::gG s' (k,bt)++x))[258]?=some (.slice (some ⟨lb,lo,none⟩) n V.lc):=by rw[tY _ _ _ (by decide),V.kX,HM.out.la,HM.out.ln]
 have HF2:Hid (∀ u,Later w1.drew u→Box u sb (sC V (.slice (some ⟨vb,0,none⟩) n n::gG s' (k,bt)++x)) 123∧u.cell? ⟨sb,261,none⟩=some (.int .i64 (s':Nat))∧u.cell? ⟨sb,258,none⟩=some (.slice (some ⟨lb,lo,none⟩) n V.lc)∧u.cell? ⟨lb,lo+s',none⟩=some (.int .i64 (labS D s'))∧aP sb w u):=ah fun u hu=>by
  have h1:Below w1.heap.size w1 u:=((Below.refl _ _).drew).trans (hu.mono (Nat.le_refl _))
  have hb4:=hb3.kept h1
  have hO4:=hO3.trans (aP.below h1)
  exact⟨hb4,hb4.fV 1,(hb4.cell _).trans agv,HM.out.lab s' hn1 u (HB.out.only hO4),hO4⟩
 have anH:(s':Int)<(n:Int):=by omega
 have anI:(0:Int)≤(s':Int):=by omega
 clear hb3 hO3 agv hsi hs0 hdi hcap hbi
 go_wp2_with fail
 refine aW (R:=Later) 12 (by kernel_rfl) ?_
 refine pl [0,1,2,3,4,5,6,7,8,9,10,11] ?_
 repeat
  refine jW ?_ rfl (fun w1 hl=>?_) ?_
  rotate_left
  ·obtain⟨hbx,q0,q1,q2,_⟩:=HF2.out w1 hl;have l0:=hbx.lt;have l1:=World.block_lt_of_cell? w1 _ q2;go_simp;try with_reducible rfl
  simp only[eA,eB,eC,Act.put,eD,eE,eF]
 refine eX ?_
 refine bC (by kernel_rfl) (fun w1 hl=>?_) _
 obtain⟨hb5,_,_,_,Eo⟩:=HF2.out w1 hl
 clear HF2 hl
 obtain⟨lb',aaX⟩:∃ y,labS D s'=y:=⟨_,rfl⟩
 have HL:=ah aaX
 rw[aaX]
 clear aaX
 by_cases hz:lb'=0
 ·have hz2:(lb' != 0)=false:=by simp[hz]
  have HF3:Hid (∀ u,Later w1.drew u→Box u sb (sC V (.slice (some ⟨vb,0,none⟩) n n::gG s' (k,bt)++x)) 123∧u.cell? ⟨sb,261,none⟩=some (.int .i64 s')∧u.cell? ⟨sb,260,none⟩=some (.slice (some ⟨vb,0,none⟩) n n)∧u.cell? ⟨vb,s',none⟩=some (.bool (gV D s'))∧aP sb w u):=ah fun u hu=>by
   have h1:Below w1.heap.size w1 u:=((Below.refl _ _).drew).trans (hu.mono (Nat.le_refl _))
   have hb6:=hb5.kept h1
   exact⟨hb6,hb6.fV 1,hb6.fV 0,HM.out.liv s' hn1 u (HB.out.only (Eo.trans (aP.below h1))),Eo.trans (aP.below h1)⟩
  clear hb5 Eo
  go_wp2_with fail
  refine aW (R:=Later) 11 (by kernel_rfl) ?_
  refine pl [0,1,2,3,4,5,6,7,8,9,10] ?_
  repeat
   refine jW ?_ rfl (fun w1 hl=>?_) ?_
   rotate_left
   ·obtain⟨hbx,q0,q1,q2,_⟩:=HF3.out w1 hl;have l0:=hbx.lt;have l1:=World.block_lt_of_cell? w1 _ q2;go_simp;try with_reducible rfl
   simp only[eA,eB,eC,Act.put,eD,eE,eF]
  refine eX ?_
  refine bC (by kernel_rfl) (fun w1 hl=>?_) _
  obtain⟨hb7,_,_,_,Az⟩:=HF3.out w1 hl
  have Yy:=ah hb7;have S9:=ah Az
  clear hb7 Az HF3 hl
  go_wp2
  go_ret
  exact⟨rfl,by unfold EN;rw[if_pos (by rw[HL.out];exact hz)];exact Yy.out,S9.out⟩
 ·have hz2:(lb' != 0)=true:=by simp[hz]
  have hb6:Box ((w1.setCell ⟨sb,262,none⟩ (.int .i64 lb')).setCell ⟨sb,263,none⟩ (.int .i64 m)) sb (sC V (.slice (some ⟨vb,0,none⟩) n n::gG s' (lb',m)++x)) 123:=(hb5.oh 2 (.int .i64 lb')).oh 3 (.int .i64 m)
  have Jv:=(Eo.set 262 (.int .i64 lb')).set 263 (.int .i64 m)
  have l0:=hb5.lt
  have f1:=hb5.free 262
  have f2:=(hb5.oh 2 (.int .i64 lb')).free 263
  have q1:w1.cell? ⟨sb,262,none⟩=some (.int .i64 k):=hb5.fV 2
  have q2:(w1.setCell ⟨sb,262,none⟩ (.int .i64 lb')).cell? ⟨sb,263,none⟩=some (.int .i64 bt):=(hb5.oh 2 (.int .i64 lb')).fV 3
  clear hb5 Eo
  have HF3:Hid (∀ u,Later ((w1.setCell ⟨sb,262,none⟩ (.int .i64 lb')).setCell ⟨sb,263,none⟩ (.int .i64 m)).drew u→Box u sb (sC V (.slice (some ⟨vb,0,none⟩) n n::gG s' (lb',m)++x)) 123∧u.cell? ⟨sb,261,none⟩=some (.int .i64 s')∧u.cell? ⟨sb,260,none⟩=some (.slice (some ⟨vb,0,none⟩) n n)∧u.cell? ⟨vb,s',none⟩=some (.bool (gV D s'))∧aP sb w u):=ah fun u hu=>by
   have h1:Below ((w1.setCell ⟨sb,262,none⟩ (.int .i64 lb')).setCell ⟨sb,263,none⟩ (.int .i64 m)).heap.size ((w1.setCell ⟨sb,262,none⟩ (.int .i64 lb')).setCell ⟨sb,263,none⟩ (.int .i64 m)) u:=((Below.refl _ _).drew).trans (hu.mono (Nat.le_refl _))
   have hb6:=hb6.kept h1
   exact⟨hb6,hb6.fV 1,hb6.fV 0,HM.out.liv s' hn1 u (HB.out.only (Jv.trans (aP.below h1))),Jv.trans (aP.below h1)⟩
  clear hb6 Jv
  go_wp2_with fail
  refine aW (R:=Later) 11 (by kernel_rfl) ?_
  refine pl [0,1,2,3,4,5,6,7,8,9,10] ?_
  repeat
   refine jW ?_ rfl (fun w1 hl=>?_) ?_
   rotate_left
   ·obtain⟨hbx,q0,q1,q2,_⟩:=HF3.out w1 hl;have l0:=hbx.lt;have l1:=World.block_lt_of_cell? w1 _ q2;go_simp;try with_reducible rfl
   simp only[eA,eB,eC,Act.put,eD,eE,eF]
  refine eX ?_
  refine bC (by kernel_rfl) (fun w1 hl=>?_) _
  obtain⟨hb7,_,_,_,Az⟩:=HF3.out w1 hl
  have Yy:=ah hb7;have S9:=ah Az
  clear hb7 Az HF3 hl
  go_wp2
  go_ret
  exact⟨rfl,by unfold EN;rw[if_neg (by rw[HL.out];exact hz),HL.out];exact Yy.out,S9.out⟩
end
end Go.Proofs.YtbemonecmmnlcaaGreatDoor
