/- The texts of N36, in few letters (mini.py). -/
import Derived.Test.YtengfapcaaacaaaGreatDoorM35
set_option linter.unusedVariables false
set_option linter.unusedSimpArgs false
set_option maxRecDepth 20000
set_option maxHeartbeats 6400000
namespace Go.Proofs.YtengfapcaaacaaaGreatDoor
section
open Go.RowKit
theorem PO{P:Program}{o:Oper}{a:Act}{w:World}(ty:TypeId)(x:Operand)(ho:o.op=.load ty x)(b off:Nat)(hx:a.eval x=.pointer (some ⟨b,off,none⟩)){cs:Array Value}{d:TypeDesc}(hc:w.rangeAt b off cs.toList)
  (hu:P.underlying ty=some d) (hd:d.isRow=true) (hi:(P.info? ty).map (·.size)=some cs.toList.length):(execOp a.eval o).run P w=.ok (.value (.agg cs)) w:=by
 have:=Uk ty x ho b off hx hc hu hd hi
 rwa[Array.toArray_toList] at this
theorem MS(N:Nf)(l:List Nat):iG N l=match oK N l 65 with | []=>0 | k::_=>(k:Int):=by
 unfold iG oK
 have h:=List.head?_filter (p:=fun k=>decide (0<k)&&lD N l k) (l:=List.range 65)
 unfold lD at h ⊢
 rw[←h]
 cases (List.range 65).filter (fun k=>decide (0<k)&&l.any fun s=>N.accept.getD s 0==k) <;> rfl
theorem MV(N:Nf)(most:Nat)(low:List Nat):∀ (f i:Nat) (sets:List (List Nat)) (next:List (List Int)) (r:List (List Nat)×List (List Int)),jQ N most low f i sets next=some r→sets.length≤most→r.1.length≤most
 | 0,_,_,_,r,h,hs=>by rw[jQ] at h;obtain rfl:=Option.some.inj h;exact hs
 | f+1,i,sets,next,r,h,hs=>by
  by_cases hi:i<sets.length
  ·rw[Pm N most low f i sets next hi] at h
   cases hr:rowP N most (sets.getD i []) low sets [] with
   | none=>rw[hr] at h;cases h
   | some q =>
    rw[hr] at h
    exact MV N most low f (i+1) q.1 _ r h ((TQ N most _ low sets [] q hr).2 hs)
  ·rw[MP N most low (f+1) i sets next hi] at h
   obtain rfl:=Option.some.inj h
   exact hs
theorem Ja(V:aG)(a:Option Addr)(n c:Nat):V.cells.setIfInBounds 258 (.slice a n c)=aG.cells { V with la:=a,ln:=n,lc:=c }:=by
 refine Ul (by rw[Array.size_setIfInBounds,aG.size]) (fun i h=>?_) ?_ ?_ ?_ ?_
 ·rw[Array.getElem?_setIfInBounds_ne (by omega),V.LD i h]
 ·rw[Array.getElem?_setIfInBounds_ne (by omega),V.Gq]
 ·rw[Array.getElem?_setIfInBounds_ne (by omega),V.Em]
 ·rw[Array.getElem?_setIfInBounds,if_pos rfl,if_pos (by rw[aG.size];decide)]
 ·rw[Array.getElem?_setIfInBounds_ne (by omega),V.Gs]
theorem ak.slV{w:World}{v:Value}{xs:List yI}(h:ak w v 1 uz xs):ak w v 1 aci (xs.map fun x:yI=>Value.slice x.1 x.2.1 x.2.2):=by
 obtain⟨a,b,o,cap,rfl,hl,hc,ha,hx⟩:=h
 refine⟨a,b,o,cap,by rw[List.length_map],by rw[List.length_map];exact hl,hc,ha.imp id (fun⟨h1,h2⟩=>⟨by rw[h1];rfl,h2⟩),fun i hi j u hu=>?_⟩
 rw[List.length_map] at hi
 rw[List.getElem_map] at hu
 exact hx i hi j u hu
theorem am6(P:Nat→Option Addr→Nat→World→Prop){T:Nat→Option Addr→Nat→World→Prop}{G:Prop}(h1:(∀ tb ma mc W,P tb ma mc W→T tb ma mc W)→G)(h2:∀ tb ma mc W,P tb ma mc W→T tb ma mc W):G:=h1 h2
def rO(f:Nat→Nat)(n:Nat)(na:Option Addr)(nn nc:Nat)(ma:Option Addr)(mn mc:Nat):aG:=⟨f,(n:Nat),na,nn,nc,none,0,0,ma,mn,mc⟩
def akf(w3:World)(C:Option Addr→Nat→aG)(names:List (List UInt8))(tb:Nat)(ma:Option Addr)(mc:Nat)(W:World):Prop :=
 Below w3.heap.size w3 W∧w3.heap.size≤tb∧Box W tb (C ma mc).cells 27∧Own W w3.heap.size 9 1 kV (.slice ma names.length mc) names
theorem abn(N:Nf)(V:Y3)(names:List (List UInt8))(na:Option Addr)(nc most:Nat)(w:World)(h:sZ w N V)(hw:N.wf)(h0:0<N.states)(hs:N.states≤65536)(hn:ak w (.slice na names.length nc) 1 kV names)(hnl:∀ x∈names,x.length≤9223372036854775807)
  (hlk:N.links.length≤1099511627776) (he:N.edges.length≤65536) (hm1:1≤most) (hm2:most≤65536) (hT:Tab w) (hyes:yL N names=true) (akg:names.length≤1099511627776)
  (sets:List (List Nat)) (next:List (List Int)) (hok:jQ N most (gX N) (most+1) 0 [fM N [0]] []=some (sets,next)) :
  Calls Tryz.prog 66 #[.agg (dF N V),.slice na names.length nc,.int .i64 most] w (yM w (.inr ⟨bf (RL (N.edges.map (·.2.1))),((gX N).length:Nat),next,sets.map (iG N),names⟩)):=by
 have hB0:=aj w (.cells (dF N V) 121)
 have hbx:=Box.new w (dF N V) 121
 have hB1:=hB0.alloc hB0.size (.cells Vz.cells 27)
 have hby:Box ((w.alloc (.cells (dF N V) 121)).alloc (.cells Vz.cells 27)) (w.heap.size+1) Vz.cells 27:=Box.new' (World.size_alloc _ _).symm _ _
 have dO:=hbx.kept (aj (w.alloc (.cells (dF N V) 121)) (.cells Vz.cells 27))
 have HN:=ah (fun u hu=>hyes▸He N V names na nc u (h.kept hu) hw h0 hs (hn.kept hu) hnl)
 have HO:=ah (fun u hu=>by
  have h1:=aa9 N V most u (h.kept hu) hw h0 hs hlk he hm1 hm2 (hT.kept hu)
  unfold Qj at h1
  rw[hok] at h1
  exact h1)
 have uS:=ah hn
 have hsm:=MV N most (gX N) _ _ _ _ _ hok hm1
 dsimp only at hsm
 obtain⟨vl,ve,va⟩:=V
 obtain⟨la,lc,hvl⟩:=h.li.form
 obtain⟨ea,ec,lZ⟩:=h.ed.form
 obtain⟨aa,ac,hva⟩:=h.ac.form
 dsimp only at hvl lZ hva
 subst hvl
 subst lZ
 subst hva
 have hsz:Vz.cells.size=260:=aG.size _
 clear h hw hn hnl hyes hok hT
 unfold dF at *
 dsimp only at *
 generalize hW1:((w.alloc (.cells #[.int .i64 N.states,.int .i64 0,.slice la N.links.length lc,.slice ea N.edges.length ec,.slice aa N.accept.length ac] 121)).alloc (.cells Vz.cells 27))=W1 at *
 have HW1:=ah hW1
 have x0:W1.cell? ⟨w.heap.size,0,none⟩=some (.int .i64 N.states):=dO.cell 0
 have x1:W1.cell? ⟨w.heap.size,1,none⟩=some (.int .i64 0):=dO.cell 1
 have x2:W1.cell? ⟨w.heap.size,2,none⟩=some (.slice la N.links.length lc):=dO.cell 2
 have x3:W1.cell? ⟨w.heap.size,3,none⟩=some (.slice ea N.edges.length ec):=dO.cell 3
 have x4:W1.cell? ⟨w.heap.size,4,none⟩=some (.slice aa N.accept.length ac):=dO.cell 4
 have lx:=dO.lt
 clear hW1 hbx hB0
 go_enter Tryz.func66,Tryz.ntmps66
 go_wp2_with (first | (with_reducible refine Halt.go (p:=wpList _ _ _ ({ dst:=some 15,op:=_,type:=_,pos:=_,after:=_,guard:=_ }::_) _ _) ?_) | fail)
 simp only[jH,HW1.out]
 unfold Halt
 go_wp2_with (first | (go_at_call 108;go_must (refine(HN.out _ hB1).mono ?_;rintro e w2 ⟨rfl,hb2⟩;have hy2:=hby.kept hb2;have hx2:=dO.kept hb2;have hB2:=hB1.trans (hb2.mono hB1.size);have z0:w2.cell? ⟨w.heap.size,0,none⟩=some (.int .i64 N.states):=hx2.cell 0;have z1:w2.cell? ⟨w.heap.size,1,none⟩=some (.int .i64 0):=hx2.cell 1;have z2:w2.cell? ⟨w.heap.size,2,none⟩=some (.slice la N.links.length lc):=hx2.cell 2;have z3:w2.cell? ⟨w.heap.size,3,none⟩=some (.slice ea N.edges.length ec):=hx2.cell 3;have z4:w2.cell? ⟨w.heap.size,4,none⟩=some (.slice aa N.accept.length ac):=hx2.cell 4;have lz:=hx2.lt)) | (go_at_call 109;go_must (refine(HO.out w2 hB2).mono ?_;rintro e w3 ⟨hb3,bp,qB,inn,mb,B,kv,lb,eb,kl,ke,va,rfl,AO,hlo,aja,ajb,hMa,ajc,qA⟩;have hy3:=hy2.kept hb3)))
 have hB3:=hB2.trans (hb3.mono hB2.size)
 obtain⟨rP,ad1,ajd,aje⟩:=AO.nexts
 obtain⟨AQ,AU,O1⟩:=ad1.form
 obtain⟨loa,loc,ad2⟩:∃ a c,B.lo=.slice a (gX N).length c:=by obtain⟨a,_,_,c,hv,_⟩:=hlo.1;exact⟨a,c,hv⟩
 have hDr:Below w3.heap.size w3 w3.drew:=(Below.refl _ _).drew
 have HF:Hid (∀ u,Later w3.drew u→Box u bp (dB B) 187∧u.cell? ⟨bp,258,none⟩=some (.slice loa (gX N).length loc)∧u.cell? ⟨bp,261,none⟩=some (.slice AQ rP.length AU)∧Calls Tryz.prog 110 #[.slice na names.length nc] u (iU u 9 1 kV names)∧Below w3.heap.size w3 u):=ah fun u hu=>by
  have h1:Below w3.heap.size w3 u:=hDr.trans (hu.mono hDr.size)
  have hx:=AO.box.kept h1
  refine⟨hx,?_,?_,Vg names na names.length nc u (uS.out.kept ((hB3.trans (h1.mono hB3.size)))) akg,h1⟩
  ·rw[hx.cell,uV,ad2]
  ·rw[hx.cell,uY,O1]
 have hlow:(gX N).length≤256:=jT _ _
 have HBU:=ah AO;have HLO:=ah hlo;have HMA:=ah hMa;have HY3:=ah hy3;have HB3:=ah hB3;have am7:=ah ad1;have am8:=ah aje;have Yf:=ah qA;have am9:=ah ajc;have GL:=ah aja;have Rl:=ah ajb;have wQ:=ah ajd;have HLV:=ah ad2;have HNV:=ah O1
 clear qA ajc aja ajb ajd ad2 O1 hDr AO hlo hMa hy3 hB3 ad1 aje HN HO x0 x1 x2 x3 x4 z0 z1 z2 z3 z4
 refine aA (R:=Later) 17 (by kernel_rfl) ?_
 refine pl [0,1,2] ?_
 repeat
  refine dI ?_ rfl (fun w1 hl=>?_) ?_
  rotate_left
  ·skip;go_simp;try with_reducible rfl
  simp only[eA,eB,eC,Act.put,eD,eE,eF]
 refine bU ?_
 refine jM 3 (.agg (aS B.of)) rfl (fun w1 hl=>?_) ?_
 ·exact PO 22 _ rfl bp 2 rfl (HF.out w1 hl).1.Ws Tryz.underlying22 rfl (by rw[Array.length_toList,aV];rfl)
 simp only[List.getElem_toArray,List.getElem_cons_zero,List.getElem_cons_succ,Act.put,List.setIfInBounds_toArray,List.set_cons_zero,List.set_cons_succ]
 refine pl [4,5,6,7,8,9,10,11,12,13] ?_
 repeat
  refine dI ?_ rfl (fun w1 hl=>?_) ?_
  rotate_left
  ·obtain⟨hX,q1,q2,_,_⟩:=HF.out w1 hl;have lX:=hX.lt;go_simp;try with_reducible rfl
  simp only[eA,eB,eC,Act.put,eD,eE,eF]
 refine bU ?_
 refine am6 (akf w3 (fun ma mc=>rO B.of (gX N).length AQ rP.length AU ma names.length mc) names) (T:=?T) (fun key=>?main) ?rest
 case main =>
  have l0:Later w3.drew w3.drew:=Later.refl _
  refine Ho (t:=17) (i:=14) (j:=16) (by kernel_rfl) rfl rfl (fun w1 hl K hK=>?_) (fun w1 hl K hK=>?_)
  ·have hs1:=(HF.out w1 (Later.trans _ _ _ l0 hl)).2.2.2.2.size
   go_simp
   refine(HF.out w1 (Later.trans _ _ _ l0 hl)).2.2.2.1.mono ?_
   rintro e wq ⟨ma,mc,rfl,hown,hbq⟩
   refine hK.out _ _ (fun _=>hbq) ?_
   clear hK K
   replace l0:=Later.trans _ _ _ (Later.trans _ _ _ l0 hl) hbq
   have hwb:w3.heap.size≤w1.heap.size:=hs1
   have l1:=l0
   refine jM 15 (.agg (rO B.of (gX N).length AQ rP.length AU ma names.length mc).cells) rfl (fun w1 hl=>?_) ?_
   ·exact AP rfl (by rfl) (Pv B.of ((gX N).length:Nat) AQ ma rP.length AU names.length mc)
   simp only[List.getElem_toArray,List.getElem_cons_zero,List.getElem_cons_succ,Act.put,List.setIfInBounds_toArray,List.set_cons_zero,List.set_cons_succ]
   refine aP (t:=17) (i:=16) (by kernel_rfl) rfl (fun w1 hl K hK=>?_)
   have hown:=hown.kept hl
   go_simp
   simp only[jH]
   refine hK.out _ _ (fun _=>aj _ _) ?_
   clear hK K
   have hzb:=Box.new w1 Vz.cells 27
   have hzl:=aj w1 (.cells Vz.cells 27)
   replace l0:=Later.trans _ _ _ (Later.trans _ _ _ l0 hl) hzl
   have htb:w3.heap.size≤w1.heap.size:=by have h1:=(HF.out w1 (Later.trans _ _ _ l1 hl)).2.2.2.2.size;exact h1
   have hne:∀ g,(Value.slice ma names.length mc).ownBlock=some g→g≠w1.heap.size:=fun g hg=>by have:=(hown.blk hg).2;omega
   replace hown:=hown.kept hzl
   generalize (w1.alloc (.cells Vz.cells 27))=wz at *
   generalize w1.heap.size=tb at *
   refine aP (t:=17) (i:=17) (by kernel_rfl) rfl (fun w1 hl K hK=>?_)
   have Um:=hzb.kept hl
   have hown2:=hown.kept hl
   have l2:=Later.trans _ _ _ l0 hl
   refine gu (by rfl) ?_
   refine wp_store_row 27 _ _ rfl tb _ rfl rfl _ _ Um (bQ _) (aG.sizes _ _) (aG.all _) ?_
   refine hK.out _ _ (fun h=>absurd rfl h) ?_
   clear hK K
   have hb2:=(HF.out w1 l2).2.2.2.2
   have hfin:=Um.setRow (rO B.of (gX N).length AQ rP.length AU ma names.length mc).cells
   have hown3:Own (w1.setRow tb (rO B.of (gX N).length AQ rP.length AU ma names.length mc).cells) _ 9 1 kV (.slice ma names.length mc) names:=hown2.same fun g hg=>setRow_other w1 tb g _ (hne g (by rw[hg]))
   have hbf:=below_setRow hb2 htb (rO B.of (gX N).length AQ rP.length AU ma names.length mc).cells
   refine aH (by kernel_rfl) (fun w1 hl=>?_) _
   exact key tb ma mc w1 ⟨hbf.trans (hl.mono hbf.size),htb,hfin.kept hl,(hown3.kept hl).mono hwb⟩
  ·have l1:=l0
   go_simp
   simp only[jH]
   refine hK.out _ _ (fun _=>aj _ _) ?_
   clear hK K
   have hzb:=Box.new w1 Vz.cells 27
   have hzl:=aj w1 (.cells Vz.cells 27)
   replace l0:=Later.trans _ _ _ (Later.trans _ _ _ l0 hl) hzl
   have htb:w3.heap.size≤w1.heap.size:=by have h1:=(HF.out w1 (Later.trans _ _ _ l1 hl)).2.2.2.2.size;exact h1
   generalize (w1.alloc (.cells Vz.cells 27))=wz at *
   generalize w1.heap.size=tb at *
   refine aP (t:=17) (i:=14) (by kernel_rfl) rfl (fun w1 hl K hK=>?_)
   have hs1:w3.heap.size≤w1.heap.size:=(HF.out w1 (Later.trans _ _ _ l0 hl)).2.2.2.2.size
   have hzb:=hzb.kept hl
   have hzs:=hzb.lt
   go_simp
   refine(HF.out w1 (Later.trans _ _ _ l0 hl)).2.2.2.1.mono ?_
   rintro e wq ⟨ma,mc,rfl,hown,hbq⟩
   refine hK.out _ _ (fun _=>hbq) ?_
   clear hK K
   replace l0:=Later.trans _ _ _ (Later.trans _ _ _ l0 hl) hbq
   have hzb:=hzb.kept hbq
   have hwb:w3.heap.size≤w1.heap.size:=hs1
   have hne:∀ g,(Value.slice ma names.length mc).ownBlock=some g→g≠tb:=fun g hg=>by have:=(hown.blk hg).1;omega
   refine jM 15 (.agg (rO B.of (gX N).length AQ rP.length AU ma names.length mc).cells) rfl (fun w1 hl=>?_) ?_
   ·exact AP rfl (by rfl) (Pv B.of ((gX N).length:Nat) AQ ma rP.length AU names.length mc)
   simp only[List.getElem_toArray,List.getElem_cons_zero,List.getElem_cons_succ,Act.put,List.setIfInBounds_toArray,List.set_cons_zero,List.set_cons_succ]
   refine aP (t:=17) (i:=17) (by kernel_rfl) rfl (fun w1 hl K hK=>?_)
   have Um:=hzb.kept hl
   have hown2:=hown.kept hl
   have l2:=Later.trans _ _ _ l0 hl
   refine gu (by rfl) ?_
   refine wp_store_row 27 _ _ rfl tb _ rfl rfl _ _ Um (bQ _) (aG.sizes _ _) (aG.all _) ?_
   refine hK.out _ _ (fun h=>absurd rfl h) ?_
   clear hK K
   have hb2:=(HF.out w1 l2).2.2.2.2
   have hfin:=Um.setRow (rO B.of (gX N).length AQ rP.length AU ma names.length mc).cells
   have hown3:Own (w1.setRow tb (rO B.of (gX N).length AQ rP.length AU ma names.length mc).cells) _ 9 1 kV (.slice ma names.length mc) names:=hown2.same fun g hg=>setRow_other w1 tb g _ (hne g (by rw[hg]))
   have hbf:=below_setRow hb2 htb (rO B.of (gX N).length AQ rP.length AU ma names.length mc).cells
   refine aH (by kernel_rfl) (fun w1 hl=>?_) _
   exact key tb ma mc w1 ⟨hbf.trans (hl.mono hbf.size),htb,hfin.kept hl,(hown3.kept hl).mono hwb⟩
 case rest =>
  intro tb ma mc W hP
  obtain⟨hBW,htb,hbox,abo⟩:=hP
  have AO:=HBU.out.kept hBW
  obtain⟨pz,hro,hrl,hre⟩:=HBU.out.rows
  obtain⟨sa,sc,hsv⟩:=hro.form
  have x5:W.cell? ⟨bp,260,none⟩=some (.slice sa pz.length sc):=by rw[AO.box.cell,ku,hsv]
  have hbl:=AO.box.lt
  have hbt:=hbox.lt
  rw[hrl] at x5
  rw[hsv] at hro
  obtain⟨m,hm⟩:∃ m,sets.length=m:=⟨_,rfl⟩
  have HMS:=ah hm;have ajg:=ah hbox;have ad3:=ah abo;have ER:=ah hro;have HRE:=ah hre;have zn:=ah hrl;have jG:=ah hBW;have HIS:=ah AO.BJ
  have hsc:sets.length≤sc:=by have:=hro.open.2.1;omega
  have hsc2:=hro.open.2.2.1
  rw[hm] at x5 hsc hsm
  clear hbox abo hro hre hrl hBW AO hsv hm
  go_wp2
  clear x5
  go_loopw [51] (fun v wr=>∃ (k:Nat) (la':Option Addr) (Jb:Nat),k≤m∧v=.int .i64 k∧Own wr W.heap.size 3 1 encI (.slice la' k Jb) ((sets.take k).map (iG N))∧Box wr tb (aG.cells { rO B.of (gX N).length AQ rP.length AU ma names.length mc with la:=la',ln:=k,lc:=Jb }) 27∧dG W.heap.size tb W wr) (fun v _=>m - (intOf v).toNat)
  case atStart=>exact⟨0,none,0,Nat.zero_le _,rfl,Own.nil _ _ _ _ _,ajg.out,dG.refl _ _ _⟩
  case round =>
   obtain⟨k,la',Jb,hk,rfl,hown,hbx,rM⟩:=hrel
   have hBr:Below w3.heap.size w3 wr:=rM.toBelow jG.out (jG.out.size) htb
   by_cases hlt:k<m
   ·have hks:k<sets.length:=by rw[HMS.out];exact hlt
    have hkr:k<pz.length:=by rw[zn.out];exact hks
    obtain⟨ra,rc',hrk,hsi⟩:=HRE.out k hkr hks
    have hO:=ER.out.kept hBr
    obtain⟨_,_,_,g,cur,hga,hgx⟩:=hO.open
    obtain rfl:=hga k hkr
    obtain⟨_,hgb,_,hgc⟩:=hgx (by omega)
    have c0:wr.cell? ⟨g,k,none⟩=some (.slice ra sets[k].length rc'):=by
     have h4:=hgc k hkr 0 (by decide)
     rw[show k*1+0=k by omega,hrk] at h4
     rw[hgb.cell,h4];rfl
    have hgl:=hgb.lt
    have hbox:=(HBU.out.kept hBr).box
    have z0:wr.cell? ⟨bp,0,none⟩=some (.pointer (some ⟨B.m,0,none⟩)):=by rw[hbox.cell,jW]
    have amW:=hbox.lt
    have hset:=HIS.out _ (List.getElem_mem hks)
    have hmem:∀ x∈sets[k],x<N.states:=fun x hx=>by rw[hset.set.2] at hx;rw[←Rl.out];exact Tf hx
    have hlab:=aaY B.m lb eb kl ke va N ra sets[k].length rc' sets[k] wr (HMA.out.kept hBr) ((hsi.1.kept hBr)) hmem
    have hll:=MS N sets[k]
    have htk:(sets.take (k+1)).map (iG N)=(sets.take k).map (iG N)++[iG N sets[k]]:=by rw[List.take_succ_eq_append_getElem hks,List.map_append];rfl
    have hlen:((sets.take k).map (iG N)).length=k:=by rw[List.length_map,List.length_take];omega
    have aqw:=IZ N sets[k] 65
    generalize (sets.take k).map (iG N)=ys at *
    generalize sets[k]=S at *
    generalize oK N S 65=L at *
    generalize iG N S=lab at *
    have htl:=hbx.lt
    have y8:wr.cell? ⟨tb,258,none⟩=some (.slice la' k Jb):=by rw[hbx.cell,aG.oV]
    have ajh:=ah hlab;have Bh:=ah htk;have HOW:=ah hown;have EW:=ah hbx;have DF:=ah rM;have uK:=ah hlen
    have hki:(k:Int)<(m:Int):=by omega
    have hk0:(0:Int)≤(k:Int):=by omega
    have hkm:k≤9223372036854775806:=by omega
    clear hlab htk hown hbx rM hBr hO hgc hgx hga hgb hbox hset hmem hsi hrk hlen y8
    cases L with
    | nil =>
     dsimp only at hll
     subst hll
     go_wp2_with (first | (go_at_call 111;go_must (refine ajh.out.mono ?_;rintro e w5 ⟨la5,lc5,rfl,BM,hb5⟩;have wE:=EW.out.kept hb5;have y8:w5.cell? ⟨tb,258,none⟩=some (.slice la' k Jb):=by { rw[wE.cell,aG.oV] };have hl5:=wE.lt;have hs5:=hb5.size;have zk:=(HOW.out.kept hb5).kept (aj w5 (.cells #[.int .i64 0] 3));have N8:=wE.kept (aj w5 (.cells #[.int .i64 0] 3));have hyl:=uK.out)) | (at_builtin;go_must (refine fJ rfl _ _ 24 rfl jg uN rfl zk ⟨w5.heap.size,0,none⟩ 1 (0) rfl (dD w5 [.int .i64 (0)] _) (by simp only[maxLen];omega) (by omega) (by rw[World.size_alloc];have:=DF.out.size;omega) ?_;intro a7 c7 w7 iI dn;have vW:=N8.grown zk dn hbt;have y9:w7.cell? ⟨tb,258,none⟩=some (.slice la' k Jb):=by { rw[vW.cell,aG.oV] };have f9:=vW.free 258;have l9:=vW.lt)))
     rw[uK.out] at iI
     have hfin:=vW.set 258 (.slice a7 (k+1) c7)
     rw[Ja] at hfin
     have hk1:dG W.heap.size tb W (w5.alloc (.cells #[.int .i64 (0)] 3)):=(DF.out.trans (dG.below (mb:=tb) hb5 DF.out.size)).trans (dG.below (mb:=tb) (aj _ _) (by have:=DF.out.size;omega))
     have hk2:=hk1.grown zk dn (by rw[World.size_alloc];have:=DF.out.size;omega)
     have hk3:dG W.heap.size tb W (w7.setCell ⟨tb,258,none⟩ (.slice a7 (k+1) c7)):=hk2.trans ⟨rfl,rfl,rfl,Nat.le_of_eq (World.size_setCell _ _ _).symm,fun b _ hn=>heap_setCell_other _ _ _ _ hn⟩
     refine⟨⟨k+1,a7,c7,hlt,by push_cast;rfl,?_,?_,?_⟩,by simp[intOf];omega⟩
     ·rw[Bh.out];exact iI.other _ _ hbt
     ·exact hfin
     ·exact hk3
    | cons z L =>
     dsimp only at hll
     subst hll
     have hpos:decide ((0:Int)<(((z::L).length:Nat):Int))=true:=by simp
     obtain⟨nl,hnl⟩:∃ nl,(z::L).length=nl:=⟨_,rfl⟩
     have adx:0<nl:=by rw[←hnl];simp
     have hn0:(0:Int)<(nl:Int):=by omega
     go_wp2_with (first | (go_at_call 111;go_must (refine ajh.out.mono ?_;rintro e w5 ⟨la5,lc5,rfl,BM,hb5⟩;have wE:=EW.out.kept hb5;have y8:w5.cell? ⟨tb,258,none⟩=some (.slice la' k Jb):=by { rw[wE.cell,aG.oV] };have hl5:=wE.lt;obtain⟨_,_,_,g5,ana,anb⟩:=BM.LU;obtain⟨rfl,aqx⟩:=ana 0 (by simp);have q0:w5.cell? ⟨g5,0,none⟩=some (.int .i64 (z:Nat)):=anb w5 0 (by simp) rfl;have hs5:=hb5.size;have zk:=(HOW.out.kept hb5).kept (aj w5 (.cells #[.int .i64 (z:Nat)] 3));have N8:=wE.kept (aj w5 (.cells #[.int .i64 (z:Nat)] 3));have hyl:=uK.out)) | (at_builtin;go_must (refine fJ rfl _ _ 24 rfl jg uN rfl zk ⟨w5.heap.size,0,none⟩ 1 ((z:Nat)) rfl (dD w5 [.int .i64 ((z:Nat))] _) (by simp only[maxLen];omega) (by omega) (by rw[World.size_alloc];have:=DF.out.size;omega) ?_;intro a7 c7 w7 iI dn;have vW:=N8.grown zk dn hbt;have y9:w7.cell? ⟨tb,258,none⟩=some (.slice la' k Jb):=by { rw[vW.cell,aG.oV] };have f9:=vW.free 258;have l9:=vW.lt)))
     rw[uK.out] at iI
     have hfin:=vW.set 258 (.slice a7 (k+1) c7)
     rw[Ja] at hfin
     have hk1:dG W.heap.size tb W (w5.alloc (.cells #[.int .i64 (((z:Nat):Int))] 3)):=(DF.out.trans (dG.below (mb:=tb) hb5 DF.out.size)).trans (dG.below (mb:=tb) (aj _ _) (by have:=DF.out.size;omega))
     have hk2:=hk1.grown zk dn (by rw[World.size_alloc];have:=DF.out.size;omega)
     have hk3:dG W.heap.size tb W (w7.setCell ⟨tb,258,none⟩ (.slice a7 (k+1) c7)):=hk2.trans ⟨rfl,rfl,rfl,Nat.le_of_eq (World.size_setCell _ _ _).symm,fun b _ hn=>heap_setCell_other _ _ _ _ hn⟩
     refine⟨⟨k+1,a7,c7,hlt,by push_cast;rfl,?_,?_,?_⟩,by simp[intOf];omega⟩
     ·rw[Bh.out];exact iI.other _ _ hbt
     ·exact hfin
     ·exact hk3
   ·obtain rfl:k=m:=by omega
    rw[List.take_of_length_le (by rw[HMS.out];exact Nat.le_refl _)] at hown
    have hR0:=HY3.out.kept hBr
    have hres:=hR0.lt
    obtain⟨V',hV'⟩:∃ V':aG,{ rO B.of (gX N).length AQ rP.length AU ma names.length mc with la:=la',ln:=k,lc:=Jb }=V':=⟨_,rfl⟩
    rw[hV'] at hbx
    have aji:Below w.heap.size w wr:=HB3.out.trans (hBr.mono HB3.out.size)
    have hs3:=HY3.out.lt
    obtain⟨wf,hwf⟩:∃ wf,wr.setRow (w.heap.size+1) V'.cells=wf:=⟨_,rfl⟩
    have hWs:=jG.out.size
    have hwz:wf.heap.size=wr.heap.size:=by rw[←hwf];exact size_setRow _ _ _
    have aqy:=hBr.size
    have hsz3:=HB3.out.size
    have hrd:(∀ u:World,(∀ b,w.heap.size≤b→b<wf.heap.size→u.heap[b]?=wf.heap[b]?)→iJ u V' ⟨bf (RL (N.edges.map (·.2.1))),((gX N).length:Nat),next,sets.map (iG N),names⟩)∧V'.of=bf (RL (N.edges.map (·.2.1))):=by
     refine⟨fun u hu=>?_,by rw[←hV'];exact GL.out⟩
     have hso:∀ b,w.heap.size≤b→b<wr.heap.size→b≠w.heap.size+1→u.heap[b]?=wr.heap[b]?:=fun b hb0 hb1 hne=>by rw[hu b hb0 (by rw[hwz];exact hb1),←hwf];exact setRow_other wr _ b _ hne
     have hsame:∀ b,w.heap.size≤b→b<w3.heap.size→b≠w.heap.size+1→u.heap[b]?=w3.heap[b]?:=fun b hb0 hb hne=>(hso b hb0 (by omega) hne).trans (hBr.block b hb)
     clear hwf hu
     subst hV'
     refine⟨GL.out,rfl,?_,?_,rP.map (fun x:yI=>Value.slice x.1 x.2.1 x.2.2),?_,?_,?_⟩
     ·have h1:Own u W.heap.size 3 1 encI (.slice la' k Jb) (sets.map (iG N)):=hown.same fun g hg=>hso g (by have h2:=(hown.blk hg).1;omega) (hown.blk hg).2 (by have h2:=(hown.blk hg).1;omega)
      exact h1.slice uN
     ·have h1:Own u w3.heap.size 9 1 kV (.slice ma names.length mc) names:=ad3.out.same fun g hg=>by
       obtain⟨h2,h3⟩:=ad3.out.blk hg
       rw[hso g (by omega) (by have:=rM.size;omega) (by omega)]
       refine rM.block g h3 fun e=>?_
       obtain⟨_,c2,b2⟩:=ad3.out.block g hg
       rw[e] at b2
       exact absurd (b2.lM ajg.out) (by decide)
      exact h1.slice xw
     ·have h1:=am7.out
      rw[HNV.out] at h1
      have h2:Own u qB 24 1 uz (.slice AQ rP.length AU) rP:=h1.same fun g hg=>hsame g (by have h2:=(h1.blk hg).1;have:=am9.out;have:=hb2.size;omega) (h1.blk hg).2 fun e=>by
       obtain⟨_,c2,b2⟩:=h1.block g hg
       rw[e] at b2
       exact absurd (b2.lM HY3.out) (by decide)
      exact(h2.slice uG).slV
     ·rw[List.length_map];exact wQ.out
     ·intro i h1 h2
      rw[List.length_map] at h1
      obtain⟨a,c,m1,m2⟩:=am8.out i h1 h2
      refine⟨a,c,by rw[List.getElem_map,m1],m2.1.GU fun ad e hlt=>hsame _ (by have h3:=Yf.out ad.block (m2.2 ad _ _ (by rw[e]));have h4:=hy2.lt;omega) hlt ?_⟩
      have h3:=Yf.out ad.block (m2.2 ad _ _ (by rw[e]))
      have h4:=hy2.lt
      omega
    have zh:=ah hrd;have anc:=ah hbx;have ane:=ah aji
    rw[←hwf] at zh
    have hfin:=hR0.setRow V'.cells
    clear hown hrd hbx aji hBr hV' rM hwf
    go_wp2_with (first | (refine bM (by rfl) 27 _ rfl tb rfl _ _ _ _ anc.out Tryz.underlying27 rfl (bQ _) ?_) | (refine wpList_store_row rfl 27 _ _ rfl (w.heap.size+1) _ rfl rfl _ _ hR0 (bQ _) (aG.sizes _ _) (aG.all _) ?_))
    refine bodyPost_ret (dR rfl _ _ (w.heap.size+1) 27 _ (.int .i64 0) rfl rfl hfin Tryz.underlying27 rfl (bQ _)) rfl ?_
    exact⟨below_setRow ane.out (by omega) _,V',rfl,zh.out.1,zh.out.2⟩
end
section
open Go.RowKit
theorem ajj(N:Nf)(V:Y3)(names:List (List UInt8))(na:Option Addr)(nc most:Nat)(w:World)(h:sZ w N V)(hw:N.wf)(h0:0<N.states)(hs:N.states≤65536)(hn:ak w (.slice na names.length nc) 1 kV names)(hnl:∀ x∈names,x.length≤9223372036854775807)
  (hlk:N.links.length≤1099511627776) (he:N.edges.length≤65536) (hm1:1≤most) (hm2:most≤65536) (hT:Tab w) (h64:names.length≤1099511627776) :
  Calls Tryz.prog 66 #[.agg (dF N V),.slice na names.length nc,.int .i64 most] w (yM w (DI N names most)):=by
 unfold DI
 by_cases hy:yL N names=true
 ·rw[if_pos hy]
  cases hb:jQ N most (gX N) (most+1) 0 [fM N [0]] [] with
  | none=>exact Yx N V names na nc most w h hw h0 hs hn hnl hlk he hm1 hm2 hT hy hb
  | some r=>exact abn N V names na nc most w h hw h0 hs hn hnl hlk he hm1 hm2 hT hy h64 r.1 r.2 hb
 ·rw[if_neg hy]
  exact abm N V names na nc most w h hw h0 hs hn hnl (by simpa using hy)
def DJ(L:List (List UInt8×Tr))(most:Nat):Sum Nat bC:=if sJ L=true then (if qG (L.map (·.2))≤65536 then DI (sW (L.map (·.2))) (L.map (·.1)) most else .inl 7) else .inl 6
theorem Vh{L:List (List UInt8×Tr)}(h:sJ L=true):L.length≤64∧∀ x∈L,iV x.2=true:=by
 unfold sJ qo at h
 simp only[Bool.and_eq_true,decide_eq_true_eq,List.all_eq_true] at h
 refine⟨h.1,fun x hx=>?_⟩
 obtain⟨i,hi,rfl⟩:=List.mem_iff_getElem.1 hx
 have:=h.2 i (List.mem_range.2 hi)
 unfold AA at this
 rw[List.getElem?_eq_getElem hi] at this
 simp only[Bool.and_eq_true] at this
 exact this.2
theorem Un(Rs:List (List UInt8×Vt))(a:Option Addr)(n cap most:Nat)(w:World)(h:ak w (.slice a n cap) 9 jc Rs)(hL:∀ i (h:i<Rs.length),Lies w Rs[i].2)(hnm:∀ x∈Rs,x.1.length≤9223372036854775807)(hno:sJ (Rs.map zo)=false) :
  Calls Tryz.prog 36 #[.slice a n cap,.int .i64 most] w (yM w (.inl 6)):=by
 have hb0:=aj w (.cells Vz.cells 27)
 have hy0:=Box.new w Vz.cells 27
 have HR:=ah (fun u (hu:Below w.heap.size w u)=>hno▸L8 a cap n Rs u (h.kept hu) (fun i hi=>(hL i hi).kept hu) hnm)
 have hsz:Vz.cells.size=260:=aG.size _
 clear h hL hnm hno
 obtain⟨W1,hW1⟩:∃ W1,w.alloc (.cells Vz.cells 27)=W1:=⟨_,rfl⟩
 rw[hW1] at hb0 hy0
 have HW1:=ah hW1
 clear hW1
 go_enter Tryz.func36,Tryz.ntmps36
 go_wp2_with fail
 simp only[jH,HW1.out]
 refine(HR.out _ hb0).mono ?_
 rintro e w2 ⟨rfl,hb2⟩
 have hy2:=hy0.kept hb2
 go_wp2_with (first | (simp only[jH];refine wpList_store_row rfl 27 _ _ rfl w.heap.size _ rfl rfl _ _ hy2 (bQ _) rfl (aG.all _) ?_))
 have hfin:=hy2.setRow Vz.cells
 refine bodyPost_ret (dR rfl _ _ w.heap.size 27 _ (.int .i64 6) rfl rfl hfin Tryz.underlying27 rfl (bQ _)) rfl ?_
 exact⟨below_setRow (hb0.trans (hb2.mono hb0.size)) (Nat.le_refl _) _,rfl⟩
theorem PU(Rs:List (List UInt8×Vt))(a:Option Addr)(n cap most:Nat)(w:World)(h:ak w (.slice a n cap) 9 jc Rs)(hL:∀ i (h:i<Rs.length),Lies w Rs[i].2)(hnm:∀ x∈Rs,x.1.length≤9223372036854775807)(hyes:sJ (Rs.map zo)=true)(hT:Tab w)(hm1:1≤most)(hm2:most≤65536) :
  Calls Tryz.prog 36 #[.slice a n cap,.int .i64 most] w (yM w (if qG (Rs.map fun x=>x.2.tr)≤65536 then DI (sW (Rs.map fun x=>x.2.tr)) (Rs.map (·.1)) most else .inl 7)):=by
 obtain⟨ad4,hall⟩:=Vh hyes
 rw[List.length_map] at ad4
 have hright:∀ x∈Rs,iV x.2.tr=true:=fun x hx=>hall (zo x) (List.mem_map.2 ⟨x,hx,rfl⟩)
 have hb0:=aj w (.cells Vz.cells 27)
 have hy0:=Box.new w Vz.cells 27
 have HR:=ah (fun u (hu:Below w.heap.size w u)=>hyes▸L8 a cap n Rs u (h.kept hu) (fun i hi=>(hL i hi).kept hu) hnm)
 have hsz:Vz.cells.size=260:=aG.size _
 obtain⟨b,o,hn,hcap,hcap2,ha,hx⟩:=h.open
 have HX:=ah hx;have HA:=ah ha;have HN:=ah hn;have HL:=ah hL;have uS:=ah hnm;have Gf:=ah hright;have HTB:=ah hT;have H64:=ah ad4
 have rD:n≤64:=by omega
 obtain⟨bodies,ad5⟩:∃ l,Rs.map (·.2)=l:=⟨_,rfl⟩
 obtain⟨names,ad6⟩:∃ l,Rs.map (·.1)=l:=⟨_,rfl⟩
 have ajk:(Rs.map fun x=>x.2.tr)=bodies.map Vt.tr:=by rw[←ad5,List.map_map];rfl
 rw[ajk,ad6]
 obtain⟨ANS,hA⟩:∃ ANS,(if qG (bodies.map Vt.tr)≤65536 then DI (sW (bodies.map Vt.tr)) names most else .inl 7)=ANS:=⟨_,rfl⟩
 rw[hA]
 have lq:=ah hA
 clear hA
 have GL:=ah ad5;have oZ:=ah ad6
 clear h hL hnm hyes hx ha hn hright hT hall ad4 ad5 ad6 ajk
 obtain⟨W1,hW1⟩:∃ W1,w.alloc (.cells Vz.cells 27)=W1:=⟨_,rfl⟩
 rw[hW1] at hb0 hy0
 have HW1:=ah hW1
 clear hW1
 go_enter Tryz.func36,Tryz.ntmps36
 go_wp2_with fail
 simp only[jH,HW1.out]
 refine(HR.out _ hb0).mono ?_
 rintro e w2 ⟨rfl,hb2⟩
 go_wp2
 have hB2:=hb0.trans (hb2.mono hb0.size)
 have hy2:=hy0.kept hb2
 have HB2:=ah hB2;have HY2:=ah hy2
 clear hB2 hy2 hb2 hb0 hy0 HR
 go_loopw [6,7,18] (fun v6 v7 v18 wr=>∃ (k:Nat) (aB:Option Addr) (qB cB:Nat) (aN:Option Addr) (qN cN:Nat),k≤n∧v18=.int .i64 k∧v6=.slice aB qB cB∧v7=.slice aN qN cN∧Own wr w2.heap.size 115 8 Vt.cells (.slice aB qB cB) (bodies.take k)∧Own wr w2.heap.size 9 1 kV (.slice aN qN cN) (names.take k)∧Below w2.heap.size w2 wr) (fun _ _ v18 _=>n - (intOf v18).toNat)
 case atStart=>exact⟨0,none,0,0,none,0,0,Nat.zero_le _,rfl,rfl,rfl,Own.nil _ _ _ _ _,Own.nil _ _ _ _ _,Below.refl _ _⟩
 case round =>
  obtain⟨k,aB,qB,cB,aN,qN,cN,hk,rfl,rfl,rfl,hob,hon,hB⟩:=hrel
  have hBw:Below w.heap.size w wr:=HB2.out.trans (hB.mono HB2.out.size)
  by_cases hlt:k<n
  ·have hk2:k<Rs.length:=by rw[←HN.out];exact hlt
   obtain rfl:=HA.out k hk2
   have hy:∀ j u,(jc Rs[k])[j]?=some u→wr.cell? ⟨b,o+k*9+j,none⟩=some u:=fun j u hu=>by
    have:=HX.out k hk2 j u hu
    rw[hBw.cell (World.block_lt_of_cell? w _ this)];exact this
   have htb:bodies.take (k+1)=bodies.take k++[Rs[k].2]:=by
    rw[←GL.out,←List.map_take,←List.map_take,List.take_succ_eq_append_getElem hk2,List.map_append];rfl
   have htn:names.take (k+1)=names.take k++[Rs[k].1]:=by
    rw[←oZ.out,←List.map_take,←List.map_take,List.take_succ_eq_append_getElem hk2,List.map_append];rfl
   have hlb:(bodies.take k).length≤k:=List.length_take_le _ _
   have hln:(names.take k).length≤k:=List.length_take_le _ _
   generalize bodies.take k=bk at *
   generalize names.take k=nk at *
   generalize Rs[k]=x at *
   obtain⟨nm,⟨k5,s5,a5,cp5,bY,bZ,hi5⟩⟩:=x
   have y0:=hy 0 _ rfl
   have y1:=hy 1 _ rfl
   have y2:=hy 2 _ rfl
   have y3:=hy 3 _ rfl
   have y4:=hy 4 _ rfl
   have y5:=hy 5 _ rfl
   have y6:=hy 6 _ rfl
   have y7:=hy 7 _ rfl
   have y8:=hy 8 _ rfl
   have hbl:=World.block_lt_of_cell? wr _ y0
   simp only[Nat.add_zero] at y0
   have hki:(k:Int)<(n:Int):=by omega
   have hk0:(0:Int)≤(k:Int):=by omega
   obtain⟨R9,yZ⟩:∃ R9:Array Value,#[sv nm,.int .i64 k5,.int .u64 (word s5 0:Nat),.int .u64 (word s5 1:Nat),.int .u64 (word s5 2:Nat),.int .u64 (word s5 3:Nat),.slice a5 bY.length cp5,.int .i64 bZ,.int .i64 hi5]=R9:=⟨_,rfl⟩
   have hq1:=hob.open.1
   have hq2:=hon.open.1
   have hB1:=aj wr (.cells #[sv nm,.int .i64 k5,.int .u64 (word s5 0:Nat),.int .u64 (word s5 1:Nat),.int .u64 (word s5 2:Nat),.int .u64 (word s5 3:Nat),.slice a5 bY.length cp5,.int .i64 bZ,.int .i64 hi5] 117)
   have ad7:=hob.kept hB1
   have anf:=hon.kept hB1
   have hbox:=Box.new wr #[sv nm,.int .i64 k5,.int .u64 (word s5 0:Nat),.int .u64 (word s5 1:Nat),.int .u64 (word s5 2:Nat),.int .u64 (word s5 3:Nat),.slice a5 bY.length cp5,.int .i64 bZ,.int .i64 hi5] 117
   have N7:=hB.trans (hB1.mono hB.size)
   have ang:=ah htb;have HTN:=ah htn;have HOB:=ah hob;have IL:=ah hon;have HQ1:=ah hq1;have HQ2:=ah hq2;have BP:=ah hB
   have hbs:=hB.size
   clear hy htb htn hob hon hq1 hq2 hB hBw yZ
   go_wp2_with (first | (at_builtin;(refine fJ rfl _ _ 109 rfl Fv D6 rfl (ad7.alloc _) ⟨wr.heap.size+1,0,none⟩ 1 (Vt.mk k5 s5 a5 cp5 bY bZ hi5) rfl (by rw[←World.size_alloc wr (.cells #[sv nm,.int .i64 k5,.int .u64 (word s5 0:Nat),.int .u64 (word s5 1:Nat),.int .u64 (word s5 2:Nat),.int .u64 (word s5 3:Nat),.slice a5 bY.length cp5,.int .i64 bZ,.int .i64 hi5] 117)];exact dD _ (Vt.cells (Vt.mk k5 s5 a5 cp5 bY bZ hi5)) _) (by simp only[maxLen];omega) (by omega) (by simp only[World.size_alloc];omega) ?_;intro a7 c7 w7 iI dn;have hbk:=(dn.block wr.heap.size (by simp only[World.size_alloc];omega) (fun e'=>by { have:=(HOB.out.blk e'.symm).2;omega })).trans (hbox.kept (aj _ (.cells (Vt.cells (Vt.mk k5 s5 a5 cp5 bY bZ hi5)).toArray 115)));have z0:w7.cell? ⟨wr.heap.size,0,none⟩=some (sv nm):=Box.cell hbk 0;have lz:=Box.lt hbk;have ad8:=(anf.alloc (.cells (Vt.cells (Vt.mk k5 s5 a5 cp5 bY bZ hi5)).toArray 115)).lS (ad7.alloc _) dn (by decide))) | (at_builtin;go_must (refine fJ rfl _ _ 25 rfl Gn xw rfl (ad8.alloc _) ⟨w7.heap.size,0,none⟩ 1 nm rfl (dD w7 [sv nm] _) (by simp only[maxLen];omega) (by omega) (by have:=dn.size;simp only[World.size_alloc] at *;omega) ?_;intro a9 c9 w9 ho9 hg9)))
   have anh:=(iI.alloc (.cells #[sv nm] 9)).lS (ad8.alloc _) hg9 (by decide)
   have hs7:=dn.size
   have hBc:=N7.alloc N7.size (.cells (Vt.cells (Vt.mk k5 s5 a5 cp5 bY bZ hi5)).toArray 115)
   have lU:=below_grown hBc (ad7.alloc _) dn (Nat.le_refl _) hBc.size
   have mW:=lU.alloc lU.size (.cells #[sv nm] 9)
   have lY:=below_grown mW (ad8.alloc _) hg9 (Nat.le_refl _) mW.size
   exact⟨⟨k+1,a7,_,c7,a9,_,c9,hlt,by push_cast;rfl,rfl,rfl,by rw[ang.out];exact anh,by rw[HTN.out];exact ho9,lY⟩,by simp[intOf];omega⟩
  ·obtain rfl:k=n:=by omega
   have hkb:bodies.take k=bodies:=List.take_of_length_le (by rw[←GL.out,List.length_map,HN.out];exact Nat.le_refl _)
   have hkn:names.take k=names:=List.take_of_length_le (by rw[←oZ.out,List.length_map,HN.out];exact Nat.le_refl _)
   rw[hkb] at hob
   rw[hkn] at hon
   have hq1:=hob.open.1
   have hq2:=hon.open.1
   subst hq1
   subst hq2
   have hlies:∀ i (h:i<bodies.length),Lies wr bodies[i]:=fun i hi=>by
    have hi2:i<Rs.length:=by rw[←GL.out,List.length_map] at hi;exact hi
    have e:bodies[i]=Rs[i].2:=by simp only[←GL.out,List.getElem_map]
    rw[e];exact(HL.out i hi2).kept hBw
   have hrt:∀ x∈bodies,iV x.tr=true:=fun x hx=>by
    rw[←GL.out] at hx
    obtain⟨y,hy,rfl⟩:=List.mem_map.1 hx
    exact Gf.out y hy
   have hb64:bodies.length≤64:=by rw[←GL.out,List.length_map];exact H64.out
   have apF:names.length≤64:=by rw[←oZ.out,List.length_map];exact H64.out
   have ajl:=aib bodies aB cB wr (hob.slice D6) hlies (fun i hi=>hrt _ (List.getElem_mem hi)) hb64
   have SL:∀ x∈names,x.length≤9223372036854775807:=fun x hx=>by
    rw[←oZ.out] at hx
    obtain⟨y,hy,rfl⟩:=List.mem_map.1 hx
    exact uS.out y hy
   have ajm:∀ x∈bodies.map Vt.tr,iV x=true:=fun x hx=>by
    obtain⟨y,hy,rfl⟩:=List.mem_map.1 hx
    exact hrt y hy
   have hok:=afy (bodies.map Vt.tr) (by rw[List.length_map];exact hb64)
   have hsm:=MI (bodies.map Vt.tr) ajm
   have EW:=ah (HY2.out.kept hB);have jG:=ah hBw;have IL:=ah hon;have zi:=ah hok;have wW:=ah hsm;have Lp:=ah ajl;have ani:=ah SL
   have HTW:=ah (HTB.out.kept hBw)
   clear hob hon hB hlies hrt ajl ajm hok hsm SL hBw hkb hkn
   by_cases hbig:qG (bodies.map Vt.tr)≤65536
   ·obtain⟨hg1,hg2,hg3,hg4⟩:=wW.out hbig
    obtain⟨hwf,wB⟩:=zi.out
    have hst:(sW (bodies.map Vt.tr)).states≤65536:=by unfold sW;rw[hwf.st];exact hg2
    have hans:=lq.out
    rw[if_pos hbig] at hans
    have hof:=fun(V:Y3) (u:World) (hu:Below wr.heap.size wr u) (hA:sZ u (sW (bodies.map Vt.tr)) V)=>ajj (sW (bodies.map Vt.tr)) V names aN cN most u hA hwf wB hst ((IL.out.kept hu).slice xw) ani.out (by unfold sW;omega) hg3 hm1 hm2 (HTW.out.kept hu) (by omega)
    rw[hans] at hof
    have EK:=ah hof
    have hnf:Calls Tryz.prog 65 #[.slice aB bodies.length cB] wr fun e w'=>Below wr.heap.size wr w'∧∃ V,sZ w' (sW (bodies.map Vt.tr)) V∧e=.returned (.tuple #[.agg (dF (sW (bodies.map Vt.tr)) V),.int .i64 0]):=Lp.out.mono fun e w' h=>⟨h.1,by have:=h.2;rwa[if_pos hbig] at this⟩
    have Yy:=ah hnf
    clear hnf hof hans Lp wW zi hbig hg1 hg2 hg3 hg4 hwf wB hst
    generalize sW (bodies.map Vt.tr)=NN at *
    go_wp2_with fail
    refine Yy.out.mono ?_
    rintro e w4 ⟨hb4,V,hA,rfl⟩
    have ajn:=EK.out V _ (hb4.alloc hb4.size (.cells (dF NN V) 121)) (hA.kept (aj w4 (.cells (dF NN V) 121)))
    have hB4:=jG.out.trans ((hb4.alloc hb4.size (.cells (dF NN V) 121)).mono jG.out.size)
    have hy4:=EW.out.kept (hb4.alloc hb4.size (.cells (dF NN V) 121))
    obtain⟨vl,ve,va⟩:=V
    obtain⟨la,lc,hvl⟩:=hA.li.form
    obtain⟨ea,ec,lZ⟩:=hA.ed.form
    obtain⟨aa,ac,hva⟩:=hA.ac.form
    dsimp only at hvl lZ hva
    subst hvl
    subst lZ
    subst hva
    unfold dF at *
    dsimp only at *
    have HF4:=ah ajn;have HB4:=ah hB4;have HY4:=ah hy4
    clear ajn hB4 hy4 hA hb4 EK Yy
    cases ANS with
    | inl c =>
     go_wp2_with (first | (go_at_call 66;go_must (refine HF4.out.mono ?_;rintro e w5 ⟨hb5,rfl⟩;have hy5:=HY4.out.kept hb5)) | (refine wpList_store_row rfl 27 _ _ rfl w.heap.size _ rfl rfl _ _ hy5 (bQ _) (aG.sizes _ _) (aG.all _) ?_))
     have hfin:=hy5.setRow Vz.cells
     refine bodyPost_ret (dR rfl _ _ w.heap.size 27 _ (.int .i64 c) rfl rfl hfin Tryz.underlying27 rfl (bQ _)) rfl ?_
     exact⟨below_setRow (HB4.out.trans (hb5.mono HB4.out.size)) (Nat.le_refl _) _,rfl⟩
    | inr D =>
     go_wp2_with (first | (go_at_call 66;go_must (refine HF4.out.mono ?_;rintro e w5 ⟨hb5,V',rfl,hrd,anj⟩;have hy5:=HY4.out.kept hb5)) | (refine wpList_store_row rfl 27 _ _ rfl w.heap.size _ rfl rfl _ _ hy5 (bQ _) (aG.sizes _ _) (aG.all _) ?_))
     have hfin:=hy5.setRow V'.cells
     refine bodyPost_ret (dR rfl _ _ w.heap.size 27 _ (.int .i64 0) rfl rfl hfin Tryz.underlying27 rfl (bQ _)) rfl ?_
     refine⟨below_setRow (HB4.out.trans (hb5.mono HB4.out.size)) (Nat.le_refl _) _,V',rfl,fun u hu=>hrd u (fun b hb1 hb2=>?_),anj⟩
     have hlt:=HY4.out.lt
     have hne:b≠w.heap.size:=by have:=HB4.out.size;omega
     have hge:w.heap.size≤b:=by have:=HB4.out.size;omega
     rw[hu b hge (by rw[size_setRow];exact hb2)]
     exact setRow_other w5 _ b _ hne
   ·have hnf:Calls Tryz.prog 65 #[.slice aB bodies.length cB] wr fun e w'=>Below wr.heap.size wr w'∧e=.returned (.tuple #[.agg #[.int .i64 0,.int .i64 0,.slice none 0 0,.slice none 0 0,.slice none 0 0],.int .i64 7]):=Lp.out.mono fun e w' h=>⟨h.1,by have:=h.2;rwa[if_neg hbig] at this⟩
    have Yy:=ah hnf
    have hans:=lq.out
    rw[if_neg hbig] at hans
    subst hans
    clear hnf Lp wW zi hbig lq
    go_wp2_with (first | (go_at_call 65;go_must (refine Yy.out.mono ?_;rintro e w4 ⟨hb4,rfl⟩;have hy4:=(EW.out.kept hb4).kept (aj w4 (.cells #[.int .i64 0,.int .i64 0,.slice none 0 0,.slice none 0 0,.slice none 0 0] 121)))) | (simp only[jH];refine wpList_store_row rfl 27 _ _ rfl w.heap.size _ rfl rfl _ _ hy4 (bQ _) (aG.sizes _ _) (aG.all _) ?_))
    have hfin:=hy4.setRow Vz.cells
    refine bodyPost_ret (dR rfl _ _ w.heap.size 27 _ (.int .i64 7) rfl rfl hfin Tryz.underlying27 rfl (bQ _)) rfl ?_
    exact⟨below_setRow (jG.out.trans ((hb4.alloc hb4.size _).mono jG.out.size)) (Nat.le_refl _) _,rfl⟩
theorem abq(Rs:List (List UInt8×Vt))(a:Option Addr)(n cap most:Nat)(w:World)(h:ak w (.slice a n cap) 9 jc Rs)(hL:∀ i (h:i<Rs.length),Lies w Rs[i].2)(hnm:∀ x∈Rs,x.1.length≤9223372036854775807)(hT:Tab w)(hm1:1≤most)(hm2:most≤65536) :
  Calls Tryz.prog 36 #[.slice a n cap,.int .i64 most] w (yM w (DJ (Rs.map zo) most)):=by
 unfold DJ
 by_cases hr:sJ (Rs.map zo)=true
 ·rw[if_pos hr,List.map_map,List.map_map]
  exact PU Rs a n cap most w h hL hnm hr hT hm1 hm2
 ·rw[if_neg hr]
  exact Un Rs a n cap most w h hL hnm (by simpa using hr)
end
section
open Go.RowKit
abbrev MW(x:Int×Nat×Nat):List Value:=[.int .i64 x.1,.int .i64 x.2.1,.int .i64 x.2.2]
theorem abr:fB MW 3:=⟨fun _=>rfl,fun x u hu=>by simp at hu;rcases hu with rfl | rfl | rfl <;> rfl⟩
theorem ad9:dQ Tryz.prog 55 61 (.agg #[.int .i64 0,.int .i64 0,.int .i64 0]) 3 24:=⟨Tryz.underlying55,info_parts (by kernel_rfl),rfl,by decide⟩
def MX(D:bC)(t:List UInt8):List (Int×Nat×Nat)×Nat:=xY D t (t.length+1) 0
def Wy(w:World)(l:List (Int×Nat×Nat))(n:Nat)(c:Nat)(e:Ending)(w':World):Prop :=
 ∃ a cap,e=.returned (.tuple #[.slice a l.length cap,.int .i64 n,.int .i64 c])∧Own w' w.heap.size 61 3 MW (.slice a l.length cap) l∧Below w.heap.size w w'
theorem Px(D:bC)(t:List UInt8):∀ (f a:Nat),(xY D t f a).1.length≤f
 | 0,_=>Nat.le_refl _
 | f+1,a=>by
  rw[xY]
  cases xI D t a with
  | none=>exact Nat.zero_le _
  | some r=>have:=Px D t f r.2;simp only[List.length_cons];omega
theorem abt(V:aG)(D:bC)(t:List UInt8)(ta:Option Addr)(tn tc:Nat)(w:World)(h:iJ w V D)(hl:∀ x∈D.names,x.length≤9223372036854775807)(hr:jC D=true)(hT:ak w (.slice ta tn tc) 1 bK t)(htl:t.length≤1099511627776) :
  Calls Tryz.prog 61 #[.agg V.cells,.slice ta tn tc] w (Wy w (MX D t).1 (MX D t).2 0):=by
 have hw:=SN hr
 obtain⟨n,wd,lb,lo,nb,no,rb,ro,rc,hm⟩:=machC h hw
 have hbx:=Box.new w V.cells 27
 have hB0:=aj w (.cells V.cells 27)
 have HR:=ah (fun u hu=>hr▸BD V D u (h.kept hu) hl)
 have HC:=ah (fun u hu=>Ug V D u (h.kept hu) hl hr)
 have HT:=ah hT;have HM:=ah hm;have HW:=ah hw
 have HV:=ah h.1
 clear h hl hr hT hm hw
 go_enter Tryz.func61,Tryz.ntmps61
 go_wp2_with (first | (refine bM (by rfl) 27 _ rfl w.heap.size rfl _ _ _ _ hbx Tryz.underlying27 rfl (bQ _) ?_) | (go_at_call 37;go_must (refine(HR.out _ hB0).mono ?_;rintro e w2 ⟨rfl,hb2⟩;have hbw:=hB0.trans (hb2.mono hB0.size);have hbx2:=hbx.kept hb2)) | (refine bM (by rfl) 27 _ rfl w.heap.size rfl _ _ _ _ hbx2 Tryz.underlying27 rfl (bQ _) ?_) | (go_at_call 95;go_must (refine(HC.out _ hbw).mono ?_;rintro e w3 ⟨cb,vb,rfl,Wx,hb3⟩)))
 have hB3:=hbw.trans (hb3.mono hbw.size)
 rw[HM.out.nl] at Wx
 have Ui:=ah Wx;have HB3:=ah hB3
 obtain⟨TK,hTK⟩:∃ TK,MX D t=TK:=⟨_,rfl⟩
 rw[hTK]
 have Bh:=ah hTK
 clear Wx hB3 hb3 hbx2 hbw hb2 hB0 hbx HR HC hTK
 go_loopw [8,9] (fun v8 v9 wr=>∃ (f at_:Nat) (acc:List (Int×Nat×Nat)) (a:Option Addr) (c:Nat),v8=.slice a acc.length c∧v9=.int .i64 at_∧at_≤t.length∧Own wr w3.heap.size 61 3 MW (.slice a acc.length c) acc∧Below w3.heap.size w3 wr∧acc++(xY D t f at_).1=TK.1∧(xY D t f at_).2=TK.2∧t.length+1≤f+at_) (fun _ v9 _=>t.length - (intOf v9).toNat)
 case atStart=>exact⟨t.length+1,0,[],none,0,rfl,rfl,Nat.zero_le _,Own.nil _ _ _ _ _,Below.refl _ _,by rw[List.nil_append,←Bh.out];rfl,by rw[←Bh.out];rfl,Nat.le_refl _⟩
 case round =>
  obtain⟨f,at_,acc,a,c,rfl,rfl,hat,hown,hB,h1,h2,hf⟩:=hrel
  have hBw:Below w.heap.size w wr:=HB3.out.trans (hB.mono HB3.out.size)
  have hnx:=agm w2.heap.size cb vb V D w wr HW.out HV.out n wd lb lo nb no rb ro rc HM.out hBw (Ui.out.kept hB) t ta tn tc at_ (HT.out.kept hBw) hat htl
  obtain⟨f,rfl⟩:∃ f',f=f'+1:=⟨f - 1,by omega⟩
  rw[xY] at h1 h2
  unfold JU at hnx
  have hal:acc.length≤t.length+1:=by
   have e1:=congrArg List.length h1
   have e2:=Px D t (t.length+1) 0
   rw[List.length_append] at e1
   have e3:TK.1.length≤t.length+1:=by rw[←Bh.out];exact e2
   omega
  cases htk:xI D t at_ with
  | none =>
   rw[htk] at hnx h1 h2
   dsimp only at hnx h1 h2
   rw[List.append_nil] at h1
   have HN:=ah hnx;have H1:=ah (And.intro h1 h2);have HO:=ah hown;have jG:=ah hBw;have BP:=ah hB
   clear hnx h1 h2 hown hBw hB htk
   go_wp2_with (go_at_call 96;go_must (refine HN.out.mono ?_;rintro e w4 ⟨rfl,hb4⟩))
   go_ret3
   obtain⟨h1,h2⟩:=H1.out
   have hB4:=BP.out.trans (hb4.mono BP.out.size)
   refine⟨a,c,by rw[←h1,←h2];rfl,?_,?_⟩
   ·rw[←h1];exact((HO.out.kept hb4).kept (aj _ _)).mono HB3.out.size
   ·exact(HB3.out.trans (hB4.mono HB3.out.size)).alloc (Nat.le_trans HB3.out.size hB4.size) _
  | some r =>
   obtain⟨k,e⟩:=r
   have hte:=Gu htk
   rw[htk] at hnx h1 h2
   dsimp only at hnx h1 h2
   rw[show acc++(k,at_,e)::(xY D t f e).1=(acc++[(k,at_,e)])++(xY D t f e).1 by simp] at h1
   have HN:=ah hnx;have H1:=ah (And.intro h1 h2);have HO:=ah hown;have jG:=ah hBw;have BP:=ah hB
   obtain⟨ht1,ht2,_⟩:=hte
   clear hnx h1 h2 hown hBw hB htk
   have hpos:=BP.out.size
   go_wp2_with (first | (go_at_call 96;go_must (refine HN.out.mono ?_;rintro e4 w4 ⟨rfl,hb4⟩;have sU:=((HO.out.kept hb4).kept (aj w4 (.cells (wH k at_ e) 61))).kept (aj _ (.cells (wH k at_ e) 61));have aqz:=hb4.size)) | (at_builtin;go_must (refine fJ rfl _ _ 55 rfl ad9 abr rfl sU ⟨w4.heap.size+1,0,none⟩ 1 (k,at_,e) rfl (by rw[←World.size_alloc w4 (.cells (wH k at_ e) 61)];exact dD _ (MW (k,at_,e)) _) (by simp only[maxLen];omega) (by omega) (by simp only[World.size_alloc];omega) ?_;intro a7 c7 w7 iI dn;have hbk:Box w7 w4.heap.size (wH k at_ e) 61:=(dn.block w4.heap.size (by simp only[World.size_alloc];omega) (fun e'=>by { have:=((HO.out.kept hb4).blk e'.symm).2;omega })).trans ((Box.new w4 _ _).kept (aj _ _));have y2:w7.cell? ⟨w4.heap.size,2,none⟩=some (.int .i64 e):=hbk.cell 2;have l2:=hbk.lt)))
   obtain⟨h1,h2⟩:=H1.out
   have hB4:=BP.out.trans (hb4.mono BP.out.size)
   have hs4:=hB4.size
   have bF:=(hB4.alloc hB4.size (.cells (wH k at_ e) 61)).alloc (by simp only[World.size_alloc];omega) (.cells (wH k at_ e) 61)
   exact⟨⟨f,e,acc++[(k,at_,e)],a7,c7,by simp,rfl,ht2,by simpa using iI,below_grown bF sU dn (Nat.le_refl _) (by simp only[World.size_alloc];omega),h1,h2,by omega⟩,by simp[intOf];omega⟩
end
section
open Go.RowKit
def kC:List UInt8:=[105,102,58,105,102,10,105,100,58,91,97,45,122,93,43,10,119,115,58,92,120,50,48,43]
def kD:List UInt8:=[105,102,102,121,32,105,102,43]
def sN:List (List UInt8×Tr):=match zD kC with | .inr R=>R | .inl _=>[]
def BQ:bC:=match DJ sN 50 with | .inr D=>D | .inl _=>⟨fun _=>0,0,[],[],[]⟩
theorem ajq:zD kC=.inr sN:=by
 have h:(zD kC).isRight=true:=by decide +kernel
 unfold sN
 cases hs:zD kC with
 | inl q=>rw[hs] at h;cases h
 | inr R=>rfl
theorem ajr:DJ sN 50=.inr BQ:=by
 have h:(DJ sN 50).isRight=true:=by decide +kernel
 unfold BQ
 cases hs:DJ sN 50 with
 | inl q=>rw[hs] at h;cases h
 | inr R=>rfl
theorem agn:jC BQ=true:=by decide +kernel
theorem agp:∀ x∈BQ.names,x.length≤9223372036854775807:=by decide +kernel
theorem aea:∀ x∈sN,x.1.length≤9223372036854775807:=by decide +kernel
theorem ajs:MX BQ kD=([(2,0,4),(3,4,5),(1,5,7)],7):=by decide +kernel
end
section
open Go.RowKit
structure apG(R:World→Prop)(V:aG)(D:bC)(n wd lb lo nb no vb:Nat)(rb ro rc:Nat→Nat):Prop where
 nl:D.label.length=n
 vof:V.of=D.of
 ln:V.ln=n
 nn:V.nn=n
 la:V.la=some ⟨lb,lo,none⟩
 na:V.na=some ⟨nb,no,none⟩
 nb1:1≤n∧n≤65536
 wdb:1≤wd∧wd≤256
 lc:n≤V.lc∧V.lc≤9223372036854775807
 nc:n≤V.nc∧V.nc≤9223372036854775807
 lab:∀ k,k<n→∀ u:World,R u→u.cell? ⟨lb,lo+k,none⟩=some (.int .i64 (labS D k))
 row:∀ s,s<n→∀ u:World,R u→u.cell? ⟨nb,no+s,none⟩=some (.slice (some ⟨rb s,ro s,none⟩) wd (rc s))
 cap:∀ s,s<n→wd≤rc s∧rc s≤9223372036854775807
 cel:∀ s,s<n→∀ j,j<wd→∀ u:World,R u→u.cell? ⟨rb s,ro s+j,none⟩=some (.int .i64 (stepD D s j:Nat))
 lt:∀ s,s<n→∀ j,j<wd→stepD D s j<n
 of:∀ b,b<256→D.of b<wd
 liv:∀ k,k<n→∀ u:World,R u→u.cell? ⟨vb,k,none⟩=some (.bool (EG D k))
def Mid(sb top:Nat)(w0 u:World):Prop:=top≤u.heap.size∧∀ b,sb<b→b<top→u.heap[b]?=w0.heap[b]?
theorem Mid.only{sb top:Nat}{w0 u u':World}(h:Mid sb top w0 u)(k:ig sb u u'):Mid sb top w0 u':=⟨Nat.le_trans h.1 k.size,fun b h1 h2=>(k.block b (Nat.lt_of_lt_of_le h2 h.1) (Nat.ne_of_gt h1)).trans (h.2 b h1 h2)⟩
theorem Mid.later{sb top:Nat}{w0 u u':World}(h:Mid sb top w0 u)(k:Below u.heap.size u u'):Mid sb top w0 u':=h.only (ig.below k)
end
section
open Go.RowKit
theorem ig.slice{α:Type}{g:Nat}{w w':World}{a:Option Addr}{n cap size:Nat}{enc:α→List Value}{xs:List α}(k:ig g w w')(h:ak w (.slice a n cap) size enc xs)(hg:∀ ad,a=some ad→ad.block≠g):ak w' (.slice a n cap) size enc xs :=
 h.GU fun ad ha hl=>k.block _ hl (hg ad ha)
end
section
open Go.RowKit
abbrev BR(x:Int×Int×Int):List Value:=[.int .i64 x.1,.int .i64 x.2.1,.int .i64 x.2.2]
end
end Go.Proofs.YtengfapcaaacaaaGreatDoor
