/- The texts of E30, in few letters (mini.py). -/
import Derived.Test.YtengfapcaaacaaaGreatDoorF29
set_option linter.unusedVariables false
set_option linter.unusedSimpArgs false
set_option maxRecDepth 20000
set_option maxHeartbeats 6400000
namespace Go.Proofs.YtengfapcaaacaaaGreatDoor
section
open Go.RowKit
theorem EN{P:Program}{o:Oper}{a:Act}{w:World}(ty:TypeId)(x:Operand)(ho:o.op=.load ty x)(b off:Nat)(hx:a.eval x=.pointer (some ⟨b,off,none⟩)){cs:Array Value}{d:TypeDesc}(hc:w.rangeAt b off cs.toList)
  (hu:P.underlying ty=some d) (hd:d.isRow=true) (hi:(P.info? ty).map (·.size)=some cs.toList.length):(execOp a.eval o).run P w=.ok (.value (.agg cs)) w:=by
 have:=Uk ty x ho b off hx hc hu hd hi
 rwa[Array.toArray_toList] at this
theorem MC(N:Nf)(l:List Nat):iP N l=match oM N l 65 with | []=>0 | k::_=>(k:Int):=by
 unfold iP oM
 have h:=List.head?_filter (p:=fun k=>decide (0<k)&&lV N l k) (l:=List.range 65)
 unfold lV at h ⊢
 rw[←h]
 cases (List.range 65).filter (fun k=>decide (0<k)&&l.any fun s=>N.accept.getD s 0==k) <;> rfl
theorem MF(N:Nf)(most:Nat)(low:List Nat):∀ (f i:Nat) (sets:List (List Nat)) (next:List (List Int)) (r:List (List Nat)×List (List Int)),kD N most low f i sets next=some r→sets.length≤most→r.1.length≤most
 | 0,_,_,_,r,h,hs=>by rw[kD] at h;obtain rfl:=Option.some.inj h;exact hs
 | f+1,i,sets,next,r,h,hs=>by
  by_cases hi:i<sets.length
  ·rw[Px N most low f i sets next hi] at h
   cases hr:rowP N most (sets.getD i []) low sets [] with
   | none=>rw[hr] at h;cases h
   | some q =>
    rw[hr] at h
    exact MF N most low f (i+1) q.1 _ r h ((TT N most _ low sets [] q hr).2 hs)
  ·rw[L9 N most low (f+1) i sets next hi] at h
   obtain rfl:=Option.some.inj h
   exact hs
theorem IL(V:aA)(a:Option Addr)(n c:Nat):V.cells.setIfInBounds 258 (.slice a n c)=aA.cells { V with la:=a,ln:=n,lc:=c }:=by
 refine Aq (by rw[Array.size_setIfInBounds,aA.size]) (fun i h=>?_) ?_ ?_ ?_ ?_
 ·rw[Array.getElem?_setIfInBounds_ne (by omega),V.qV i h]
 ·rw[Array.getElem?_setIfInBounds_ne (by omega),V.yC]
 ·rw[Array.getElem?_setIfInBounds_ne (by omega),V.pG]
 ·rw[Array.getElem?_setIfInBounds,if_pos rfl,if_pos (by rw[aA.size];decide)]
 ·rw[Array.getElem?_setIfInBounds_ne (by omega),V.yD]
theorem au.slV{w:World}{v:Value}{xs:List Iu}(h:au w v 1 xU xs):au w v 1 adn (xs.map fun x:Iu=>Value.slice x.1 x.2.1 x.2.2):=by
 obtain⟨a,b,o,cap,rfl,hl,hc,ha,hx⟩:=h
 refine⟨a,b,o,cap,by rw[List.length_map],by rw[List.length_map];exact hl,hc,ha.imp id (fun⟨h1,h2⟩=>⟨by rw[h1];rfl,h2⟩),fun i hi j u hu=>?_⟩
 rw[List.length_map] at hi
 rw[List.getElem_map] at hu
 exact hx i hi j u hu
theorem apc(P:Nat→Option Addr→Nat→World→Prop){T:Nat→Option Addr→Nat→World→Prop}{G:Prop}(h1:(∀ tb ma mc W,P tb ma mc W→T tb ma mc W)→G)(h2:∀ tb ma mc W,P tb ma mc W→T tb ma mc W):G:=h1 h2
def rE(f:Nat→Nat)(n:Nat)(na:Option Addr)(nn nc:Nat)(ma:Option Addr)(mn mc:Nat):aA:=⟨f,(n:Nat),na,nn,nc,none,0,0,ma,mn,mc⟩
def alI(w3:World)(C:Option Addr→Nat→aA)(names:List (List UInt8))(tb:Nat)(ma:Option Addr)(mc:Nat)(W:World):Prop :=
 Below w3.heap.size w3 W∧w3.heap.size≤tb∧Box W tb (C ma mc).cells 27∧Own W w3.heap.size 9 1 jl (.slice ma names.length mc) names
theorem abZ(N:Nf)(V:Y3)(names:List (List UInt8))(na:Option Addr)(nc most:Nat)(w:World)(h:sK w N V)(hw:N.wf)(h0:0<N.states)(hs:N.states≤65536)(hn:au w (.slice na names.length nc) 1 jl names)(hnl:∀ x∈names,x.length≤9223372036854775807)
  (hlk:N.links.length≤1099511627776) (he:N.edges.length≤65536) (hm1:1≤most) (hm2:most≤65536) (hT:Tab w) (hyes:yI N names=true) (alJ:names.length≤1099511627776)
  (sets:List (List Nat)) (next:List (List Int)) (hok:kD N most (iJ N) (most+1) 0 [gB N [0]] []=some (sets,next)) :
  Calls Tryz.prog 66 #[.agg (dL N V),.slice na names.length nc,.int .i64 most] w (Ar w (.inr ⟨aT (RL (N.edges.map (·.2.1))),((iJ N).length:Nat),next,sets.map (iP N),names⟩)):=by
 have hB0:=aj w (.cells (dL N V) 121)
 have hbx:=Box.new w (dL N V) 121
 have hB1:=hB0.alloc hB0.size (.cells Vz.cells 27)
 have hby:Box ((w.alloc (.cells (dL N V) 121)).alloc (.cells Vz.cells 27)) (w.heap.size+1) Vz.cells 27:=Box.new' (World.size_alloc _ _).symm _ _
 have gq:=hbx.kept (aj (w.alloc (.cells (dL N V) 121)) (.cells Vz.cells 27))
 have HN:=ah (fun u hu=>hyes▸Gt N V names na nc u (h.kept hu) hw h0 hs (hn.kept hu) hnl)
 have HO:=ah (fun u hu=>by
  have h1:=abU N V most u (h.kept hu) hw h0 hs hlk he hm1 hm2 (hT.kept hu)
  unfold Qy at h1
  rw[hok] at h1
  exact h1)
 have oW:=ah hn
 have hsm:=MF N most (iJ N) _ _ _ _ _ hok hm1
 dsimp only at hsm
 obtain⟨vl,ve,va⟩:=V
 obtain⟨la,lc,hvl⟩:=h.li.form
 obtain⟨ea,ec,mP⟩:=h.ed.form
 obtain⟨aa,ac,hva⟩:=h.ac.form
 dsimp only at hvl mP hva
 subst hvl
 subst mP
 subst hva
 have hsz:Vz.cells.size=260:=aA.size _
 clear h hw hn hnl hyes hok hT
 unfold dL at *
 dsimp only at *
 generalize hW1:((w.alloc (.cells #[.int .i64 N.states,.int .i64 0,.slice la N.links.length lc,.slice ea N.edges.length ec,.slice aa N.accept.length ac] 121)).alloc (.cells Vz.cells 27))=W1 at *
 have HW1:=ah hW1
 have x0:W1.cell? ⟨w.heap.size,0,none⟩=some (.int .i64 N.states):=gq.cell 0
 have x1:W1.cell? ⟨w.heap.size,1,none⟩=some (.int .i64 0):=gq.cell 1
 have x2:W1.cell? ⟨w.heap.size,2,none⟩=some (.slice la N.links.length lc):=gq.cell 2
 have x3:W1.cell? ⟨w.heap.size,3,none⟩=some (.slice ea N.edges.length ec):=gq.cell 3
 have x4:W1.cell? ⟨w.heap.size,4,none⟩=some (.slice aa N.accept.length ac):=gq.cell 4
 have lx:=gq.lt
 clear hW1 hbx hB0
 go_enter Tryz.func66,Tryz.ntmps66
 go_wp2_with (first | (with_reducible refine Halt.go (p:=wpList _ _ _ ({ dst:=some 15,op:=_,type:=_,pos:=_,after:=_,guard:=_ }::_) _ _) ?_) | fail)
 simp only[fO,HW1.out]
 unfold Halt
 go_wp2_with (first | (go_at_call 108;go_must (refine(HN.out _ hB1).mono ?_;rintro e w2 ⟨rfl,hb2⟩;have hy2:=hby.kept hb2;have hx2:=gq.kept hb2;have hB2:=hB1.trans (hb2.mono hB1.size);have z0:w2.cell? ⟨w.heap.size,0,none⟩=some (.int .i64 N.states):=hx2.cell 0;have z1:w2.cell? ⟨w.heap.size,1,none⟩=some (.int .i64 0):=hx2.cell 1;have z2:w2.cell? ⟨w.heap.size,2,none⟩=some (.slice la N.links.length lc):=hx2.cell 2;have z3:w2.cell? ⟨w.heap.size,3,none⟩=some (.slice ea N.edges.length ec):=hx2.cell 3;have z4:w2.cell? ⟨w.heap.size,4,none⟩=some (.slice aa N.accept.length ac):=hx2.cell 4;have lz:=hx2.lt)) | (go_at_call 109;go_must (refine(HO.out w2 hB2).mono ?_;rintro e w3 ⟨hb3,bp,base,inn,mb,B,kv,lb,eb,kl,ke,va,rfl,Ak,hlo,ajR,ajS,hMa,ajT,qy⟩;have hy3:=hy2.kept hb3)))
 have hB3:=hB2.trans (hb3.mono hB2.size)
 obtain⟨rF,aeG,ajU,ajV⟩:=Ak.nexts
 obtain⟨Au,Aw,O8⟩:=aeG.form
 obtain⟨loa,loc,aeH⟩:∃ a c,B.lo=.slice a (iJ N).length c:=by obtain⟨a,_,_,c,hv,_⟩:=hlo.1;exact⟨a,c,hv⟩
 have hDr:Below w3.heap.size w3 w3.drew:=(Below.refl _ _).drew
 have HF:Hid (∀ u,Later w3.drew u→Box u bp (dJ B) 187∧u.cell? ⟨bp,258,none⟩=some (.slice loa (iJ N).length loc)∧u.cell? ⟨bp,261,none⟩=some (.slice Au rF.length Aw)∧Calls Tryz.prog 110 #[.slice na names.length nc] u (fV u 9 1 jl names)∧Below w3.heap.size w3 u):=ah fun u hu=>by
  have h1:Below w3.heap.size w3 u:=hDr.trans (hu.mono hDr.size)
  have hx:=Ak.box.kept h1
  refine⟨hx,?_,?_,IK names na names.length nc u (oW.out.kept ((hB3.trans (h1.mono hB3.size)))) alJ,h1⟩
  ·rw[hx.cell,uU,aeH]
  ·rw[hx.cell,uX,O8]
 have hlow:(iJ N).length≤256:=gU _ _
 have HBU:=ah Ak;have HLO:=ah hlo;have HMA:=ah hMa;have HY3:=ah hy3;have HB3:=ah hB3;have apd:=ah aeG;have ape:=ah ajV;have YW:=ah qy;have apf:=ah ajT;have MG:=ah ajR;have HBS:=ah ajS;have KQ:=ah ajU;have HLV:=ah aeH;have HNV:=ah O8
 clear qy ajT ajR ajS ajU aeH O8 hDr Ak hlo hMa hy3 hB3 aeG ajV HN HO x0 x1 x2 x3 x4 z0 z1 z2 z3 z4
 refine aO (R:=Later) 17 (by kernel_rfl) ?_
 refine pl [0,1,2] ?_
 repeat
  refine dR ?_ rfl (fun w1 hl=>?_) ?_
  rotate_left
  ·skip;go_simp;try with_reducible rfl
  simp only[eA,eB,eC,Act.put,eD,eE,eF]
 refine bV ?_
 refine jF 3 (.agg (aG B.of)) rfl (fun w1 hl=>?_) ?_
 ·exact EN 22 _ rfl bp 2 rfl (HF.out w1 hl).1.WX Tryz.underlying22 rfl (by rw[Array.length_toList,aU];rfl)
 simp only[List.getElem_toArray,List.getElem_cons_zero,List.getElem_cons_succ,Act.put,List.setIfInBounds_toArray,List.set_cons_zero,List.set_cons_succ]
 refine pl [4,5,6,7,8,9,10,11,12,13] ?_
 repeat
  refine dR ?_ rfl (fun w1 hl=>?_) ?_
  rotate_left
  ·obtain⟨hX,q1,q2,_,_⟩:=HF.out w1 hl;have lX:=hX.lt;go_simp;try with_reducible rfl
  simp only[eA,eB,eC,Act.put,eD,eE,eF]
 refine bV ?_
 refine apc (alI w3 (fun ma mc=>rE B.of (iJ N).length Au rF.length Aw ma names.length mc) names) (T:=?T) (fun key=>?main) ?rest
 case main =>
  have l0:Later w3.drew w3.drew:=Later.refl _
  refine Cj (t:=17) (i:=14) (j:=16) (by kernel_rfl) rfl rfl (fun w1 hl K hK=>?_) (fun w1 hl K hK=>?_)
  ·have hs1:=(HF.out w1 (Later.trans _ _ _ l0 hl)).2.2.2.2.size
   go_simp
   refine(HF.out w1 (Later.trans _ _ _ l0 hl)).2.2.2.1.mono ?_
   rintro e wq ⟨ma,mc,rfl,hown,hbq⟩
   refine hK.out _ _ (fun _=>hbq) ?_
   clear hK K
   replace l0:=Later.trans _ _ _ (Later.trans _ _ _ l0 hl) hbq
   have hwb:w3.heap.size≤w1.heap.size:=hs1
   have l1:=l0
   refine jF 15 (.agg (rE B.of (iJ N).length Au rF.length Aw ma names.length mc).cells) rfl (fun w1 hl=>?_) ?_
   ·exact rC rfl (by rfl) (PI B.of ((iJ N).length:Nat) Au ma rF.length Aw names.length mc)
   simp only[List.getElem_toArray,List.getElem_cons_zero,List.getElem_cons_succ,Act.put,List.setIfInBounds_toArray,List.set_cons_zero,List.set_cons_succ]
   refine bg (t:=17) (i:=16) (by kernel_rfl) rfl (fun w1 hl K hK=>?_)
   have hown:=hown.kept hl
   go_simp
   simp only[fO]
   refine hK.out _ _ (fun _=>aj _ _) ?_
   clear hK K
   have hzb:=Box.new w1 Vz.cells 27
   have hzl:=aj w1 (.cells Vz.cells 27)
   replace l0:=Later.trans _ _ _ (Later.trans _ _ _ l0 hl) hzl
   have htb:w3.heap.size≤w1.heap.size:=by have h1:=(HF.out w1 (Later.trans _ _ _ l1 hl)).2.2.2.2.size;exact h1
   have hne:∀ g,(Value.slice ma names.length mc).ownBlock=some g→g≠w1.heap.size:=fun g hg=>by have:=(hown.blk hg).2;omega
   replace hown:=hown.kept hzl
   generalize (w1.alloc (.cells Vz.cells 27))=wz at *
   generalize w1.heap.size=tb at *
   refine bg (t:=17) (i:=17) (by kernel_rfl) rfl (fun w1 hl K hK=>?_)
   have Ul:=hzb.kept hl
   have hown2:=hown.kept hl
   have l2:=Later.trans _ _ _ l0 hl
   refine eY (by rfl) ?_
   refine wp_store_row 27 _ _ rfl tb _ rfl rfl _ _ Ul (ay _) (aA.sizes _ _) (aA.all _) ?_
   refine hK.out _ _ (fun h=>absurd rfl h) ?_
   clear hK K
   have hb2:=(HF.out w1 l2).2.2.2.2
   have hfin:=Ul.setRow (rE B.of (iJ N).length Au rF.length Aw ma names.length mc).cells
   have hown3:Own (w1.setRow tb (rE B.of (iJ N).length Au rF.length Aw ma names.length mc).cells) _ 9 1 jl (.slice ma names.length mc) names:=hown2.same fun g hg=>setRow_other w1 tb g _ (hne g (by rw[hg]))
   have hbf:=below_setRow hb2 htb (rE B.of (iJ N).length Au rF.length Aw ma names.length mc).cells
   refine aV (by kernel_rfl) (fun w1 hl=>?_) _
   exact key tb ma mc w1 ⟨hbf.trans (hl.mono hbf.size),htb,hfin.kept hl,(hown3.kept hl).mono hwb⟩
  ·have l1:=l0
   go_simp
   simp only[fO]
   refine hK.out _ _ (fun _=>aj _ _) ?_
   clear hK K
   have hzb:=Box.new w1 Vz.cells 27
   have hzl:=aj w1 (.cells Vz.cells 27)
   replace l0:=Later.trans _ _ _ (Later.trans _ _ _ l0 hl) hzl
   have htb:w3.heap.size≤w1.heap.size:=by have h1:=(HF.out w1 (Later.trans _ _ _ l1 hl)).2.2.2.2.size;exact h1
   generalize (w1.alloc (.cells Vz.cells 27))=wz at *
   generalize w1.heap.size=tb at *
   refine bg (t:=17) (i:=14) (by kernel_rfl) rfl (fun w1 hl K hK=>?_)
   have hs1:w3.heap.size≤w1.heap.size:=(HF.out w1 (Later.trans _ _ _ l0 hl)).2.2.2.2.size
   have hzb:=hzb.kept hl
   have hzs:=hzb.lt
   go_simp
   refine(HF.out w1 (Later.trans _ _ _ l0 hl)).2.2.2.1.mono ?_
   rintro e wq ⟨ma,mc,rfl,hown,hbq⟩
   refine hK.out _ _ (fun _=>hbq) ?_
   clear hK K
   replace l0:=Later.trans _ _ _ (Later.trans _ _ _ l0 hl) hbq
   have hzb:=hzb.kept hbq
   have hwb:w3.heap.size≤w1.heap.size:=hs1
   have hne:∀ g,(Value.slice ma names.length mc).ownBlock=some g→g≠tb:=fun g hg=>by have:=(hown.blk hg).1;omega
   refine jF 15 (.agg (rE B.of (iJ N).length Au rF.length Aw ma names.length mc).cells) rfl (fun w1 hl=>?_) ?_
   ·exact rC rfl (by rfl) (PI B.of ((iJ N).length:Nat) Au ma rF.length Aw names.length mc)
   simp only[List.getElem_toArray,List.getElem_cons_zero,List.getElem_cons_succ,Act.put,List.setIfInBounds_toArray,List.set_cons_zero,List.set_cons_succ]
   refine bg (t:=17) (i:=17) (by kernel_rfl) rfl (fun w1 hl K hK=>?_)
   have Ul:=hzb.kept hl
   have hown2:=hown.kept hl
   have l2:=Later.trans _ _ _ l0 hl
   refine eY (by rfl) ?_
   refine wp_store_row 27 _ _ rfl tb _ rfl rfl _ _ Ul (ay _) (aA.sizes _ _) (aA.all _) ?_
   refine hK.out _ _ (fun h=>absurd rfl h) ?_
   clear hK K
   have hb2:=(HF.out w1 l2).2.2.2.2
   have hfin:=Ul.setRow (rE B.of (iJ N).length Au rF.length Aw ma names.length mc).cells
   have hown3:Own (w1.setRow tb (rE B.of (iJ N).length Au rF.length Aw ma names.length mc).cells) _ 9 1 jl (.slice ma names.length mc) names:=hown2.same fun g hg=>setRow_other w1 tb g _ (hne g (by rw[hg]))
   have hbf:=below_setRow hb2 htb (rE B.of (iJ N).length Au rF.length Aw ma names.length mc).cells
   refine aV (by kernel_rfl) (fun w1 hl=>?_) _
   exact key tb ma mc w1 ⟨hbf.trans (hl.mono hbf.size),htb,hfin.kept hl,(hown3.kept hl).mono hwb⟩
 case rest =>
  intro tb ma mc W hP
  obtain⟨hBW,htb,hbox,Dl⟩:=hP
  have Ak:=HBU.out.kept hBW
  obtain⟨pK,hro,hrl,hre⟩:=HBU.out.rows
  obtain⟨sa,sc,hsv⟩:=hro.form
  have x5:W.cell? ⟨bp,260,none⟩=some (.slice sa pK.length sc):=by rw[Ak.box.cell,kX,hsv]
  have hbl:=Ak.box.lt
  have hbt:=hbox.lt
  rw[hrl] at x5
  rw[hsv] at hro
  obtain⟨m,hm⟩:∃ m,sets.length=m:=⟨_,rfl⟩
  have HMS:=ah hm;have ajX:=ah hbox;have aeI:=ah Dl;have EC:=ah hro;have HRE:=ah hre;have Td:=ah hrl;have tq:=ah hBW;have HIS:=ah Ak.BA
  have hsc:sets.length≤sc:=by have:=hro.open.2.1;omega
  have hsc2:=hro.open.2.2.1
  rw[hm] at x5 hsc hsm
  clear hbox Dl hro hre hrl hBW Ak hsv hm
  go_wp2
  clear x5
  go_loopw [51] (fun v wr=>∃ (k:Nat) (la':Option Addr) (IQ:Nat),k≤m∧v=.int .i64 k∧Own wr W.heap.size 3 1 encI (.slice la' k IQ) ((sets.take k).map (iP N))∧Box wr tb (aA.cells { rE B.of (iJ N).length Au rF.length Aw ma names.length mc with la:=la',ln:=k,lc:=IQ }) 27∧dO W.heap.size tb W wr) (fun v _=>m - (intOf v).toNat)
  case atStart=>exact⟨0,none,0,Nat.zero_le _,rfl,Own.nil _ _ _ _ _,ajX.out,dO.refl _ _ _⟩
  case round =>
   obtain⟨k,la',IQ,hk,rfl,hown,hbx,ru⟩:=hrel
   have hBr:Below w3.heap.size w3 wr:=ru.toBelow tq.out (tq.out.size) htb
   by_cases hlt:k<m
   ·have hks:k<sets.length:=by rw[HMS.out];exact hlt
    have hkr:k<pK.length:=by rw[Td.out];exact hks
    obtain⟨ra,rc',hrk,hsi⟩:=HRE.out k hkr hks
    have hO:=EC.out.kept hBr
    obtain⟨_,_,_,g,cur,hga,hgx⟩:=hO.open
    obtain rfl:=hga k hkr
    obtain⟨_,hgb,_,hgc⟩:=hgx (by omega)
    have c0:wr.cell? ⟨g,k,none⟩=some (.slice ra sets[k].length rc'):=by
     have h4:=hgc k hkr 0 (by decide)
     rw[show k*1+0=k by omega,hrk] at h4
     rw[hgb.cell,h4];rfl
    have hgl:=hgb.lt
    have hbox:=(HBU.out.kept hBr).box
    have z0:wr.cell? ⟨bp,0,none⟩=some (.pointer (some ⟨B.m,0,none⟩)):=by rw[hbox.cell,kQ]
    have ao7:=hbox.lt
    have hset:=HIS.out _ (List.getElem_mem hks)
    have hmem:∀ x∈sets[k],x<N.states:=fun x hx=>by rw[hset.set.2] at hx;rw[←HBS.out];exact Tc hx
    have hlab:=abJ B.m lb eb kl ke va N ra sets[k].length rc' sets[k] wr (HMA.out.kept hBr) ((hsi.1.kept hBr)) hmem
    have hll:=MC N sets[k]
    have htk:(sets.take (k+1)).map (iP N)=(sets.take k).map (iP N)++[iP N sets[k]]:=by rw[List.take_succ_eq_append_getElem hks,List.map_append];rfl
    have hlen:((sets.take k).map (iP N)).length=k:=by rw[List.length_map,List.length_take];omega
    have as7:=Iz N sets[k] 65
    generalize (sets.take k).map (iP N)=ys at *
    generalize sets[k]=S at *
    generalize oM N S 65=L at *
    generalize iP N S=lab at *
    have htl:=hbx.lt
    have y8:wr.cell? ⟨tb,258,none⟩=some (.slice la' k IQ):=by rw[hbx.cell,aA.iZ]
    have ajY:=ah hlab;have AX:=ah htk;have HOW:=ah hown;have Di:=ah hbx;have IU:=ah ru;have oU:=ah hlen
    have hki:(k:Int)<(m:Int):=by omega
    have hk0:(0:Int)≤(k:Int):=by omega
    have hkm:k≤9223372036854775806:=by omega
    clear hlab htk hown hbx ru hBr hO hgc hgx hga hgb hbox hset hmem hsi hrk hlen y8
    cases L with
    | nil =>
     dsimp only at hll
     subst hll
     go_wp2_with (first | (go_at_call 111;go_must (refine ajY.out.mono ?_;rintro e w5 ⟨la5,lc5,rfl,Ag,hb5⟩;have Aj:=Di.out.kept hb5;have y8:w5.cell? ⟨tb,258,none⟩=some (.slice la' k IQ):=by { rw[Aj.cell,aA.iZ] };have hl5:=Aj.lt;have hs5:=hb5.size;have Eu:=(HOW.out.kept hb5).kept (aj w5 (.cells #[.int .i64 0] 3));have NP:=Aj.kept (aj w5 (.cells #[.int .i64 0] 3));have hyl:=oU.out)) | (at_builtin;go_must (refine dK rfl _ _ 24 rfl nJ kJ rfl Eu ⟨w5.heap.size,0,none⟩ 1 (0) rfl (bW w5 [.int .i64 (0)] _) (by simp only[maxLen];omega) (by omega) (by rw[World.size_alloc];have:=IU.out.size;omega) ?_;intro a7 c7 w7 gJ dn;have kL:=NP.grown Eu dn hbt;have y9:w7.cell? ⟨tb,258,none⟩=some (.slice la' k IQ):=by { rw[kL.cell,aA.iZ] };have f9:=kL.free 258;have l9:=kL.lt)))
     rw[oU.out] at gJ
     have hfin:=kL.set 258 (.slice a7 (k+1) c7)
     rw[IL] at hfin
     have hk1:dO W.heap.size tb W (w5.alloc (.cells #[.int .i64 (0)] 3)):=(IU.out.trans (dO.below (mb:=tb) hb5 IU.out.size)).trans (dO.below (mb:=tb) (aj _ _) (by have:=IU.out.size;omega))
     have hk2:=hk1.grown Eu dn (by rw[World.size_alloc];have:=IU.out.size;omega)
     have hk3:dO W.heap.size tb W (w7.setCell ⟨tb,258,none⟩ (.slice a7 (k+1) c7)):=hk2.trans ⟨rfl,rfl,rfl,Nat.le_of_eq (World.size_setCell _ _ _).symm,fun b _ hn=>heap_setCell_other _ _ _ _ hn⟩
     refine⟨⟨k+1,a7,c7,hlt,by push_cast;rfl,?_,?_,?_⟩,by simp[intOf];omega⟩
     ·rw[AX.out];exact gJ.other _ _ hbt
     ·exact hfin
     ·exact hk3
    | cons z L =>
     dsimp only at hll
     subst hll
     have hpos:decide ((0:Int)<(((z::L).length:Nat):Int))=true:=by simp
     obtain⟨nl,hnl⟩:∃ nl,(z::L).length=nl:=⟨_,rfl⟩
     have aei:0<nl:=by rw[←hnl];simp
     have hn0:(0:Int)<(nl:Int):=by omega
     go_wp2_with (first | (go_at_call 111;go_must (refine ajY.out.mono ?_;rintro e w5 ⟨la5,lc5,rfl,Ag,hb5⟩;have Aj:=Di.out.kept hb5;have y8:w5.cell? ⟨tb,258,none⟩=some (.slice la' k IQ):=by { rw[Aj.cell,aA.iZ] };have hl5:=Aj.lt;obtain⟨_,_,_,g5,apg,aph⟩:=Ag.aiz;obtain⟨rfl,as8⟩:=apg 0 (by simp);have q0:w5.cell? ⟨g5,0,none⟩=some (.int .i64 (z:Nat)):=aph w5 0 (by simp) rfl;have hs5:=hb5.size;have Eu:=(HOW.out.kept hb5).kept (aj w5 (.cells #[.int .i64 (z:Nat)] 3));have NP:=Aj.kept (aj w5 (.cells #[.int .i64 (z:Nat)] 3));have hyl:=oU.out)) | (at_builtin;go_must (refine dK rfl _ _ 24 rfl nJ kJ rfl Eu ⟨w5.heap.size,0,none⟩ 1 ((z:Nat)) rfl (bW w5 [.int .i64 ((z:Nat))] _) (by simp only[maxLen];omega) (by omega) (by rw[World.size_alloc];have:=IU.out.size;omega) ?_;intro a7 c7 w7 gJ dn;have kL:=NP.grown Eu dn hbt;have y9:w7.cell? ⟨tb,258,none⟩=some (.slice la' k IQ):=by { rw[kL.cell,aA.iZ] };have f9:=kL.free 258;have l9:=kL.lt)))
     rw[oU.out] at gJ
     have hfin:=kL.set 258 (.slice a7 (k+1) c7)
     rw[IL] at hfin
     have hk1:dO W.heap.size tb W (w5.alloc (.cells #[.int .i64 (((z:Nat):Int))] 3)):=(IU.out.trans (dO.below (mb:=tb) hb5 IU.out.size)).trans (dO.below (mb:=tb) (aj _ _) (by have:=IU.out.size;omega))
     have hk2:=hk1.grown Eu dn (by rw[World.size_alloc];have:=IU.out.size;omega)
     have hk3:dO W.heap.size tb W (w7.setCell ⟨tb,258,none⟩ (.slice a7 (k+1) c7)):=hk2.trans ⟨rfl,rfl,rfl,Nat.le_of_eq (World.size_setCell _ _ _).symm,fun b _ hn=>heap_setCell_other _ _ _ _ hn⟩
     refine⟨⟨k+1,a7,c7,hlt,by push_cast;rfl,?_,?_,?_⟩,by simp[intOf];omega⟩
     ·rw[AX.out];exact gJ.other _ _ hbt
     ·exact hfin
     ·exact hk3
   ·obtain rfl:k=m:=by omega
    rw[List.take_of_length_le (by rw[HMS.out];exact Nat.le_refl _)] at hown
    have hR0:=HY3.out.kept hBr
    have hres:=hR0.lt
    obtain⟨V',hV'⟩:∃ V':aA,{ rE B.of (iJ N).length Au rF.length Aw ma names.length mc with la:=la',ln:=k,lc:=IQ }=V':=⟨_,rfl⟩
    rw[hV'] at hbx
    have ajZ:Below w.heap.size w wr:=HB3.out.trans (hBr.mono HB3.out.size)
    have hs3:=HY3.out.lt
    obtain⟨wf,hwf⟩:∃ wf,wr.setRow (w.heap.size+1) V'.cells=wf:=⟨_,rfl⟩
    have hWs:=tq.out.size
    have hwz:wf.heap.size=wr.heap.size:=by rw[←hwf];exact size_setRow _ _ _
    have as9:=hBr.size
    have hsz3:=HB3.out.size
    have hrd:(∀ u:World,(∀ b,w.heap.size≤b→b<wf.heap.size→u.heap[b]?=wf.heap[b]?)→aZ u V' ⟨aT (RL (N.edges.map (·.2.1))),((iJ N).length:Nat),next,sets.map (iP N),names⟩)∧V'.of=aT (RL (N.edges.map (·.2.1))):=by
     refine⟨fun u hu=>?_,by rw[←hV'];exact MG.out⟩
     have hso:∀ b,w.heap.size≤b→b<wr.heap.size→b≠w.heap.size+1→u.heap[b]?=wr.heap[b]?:=fun b hb0 hb1 hne=>by rw[hu b hb0 (by rw[hwz];exact hb1),←hwf];exact setRow_other wr _ b _ hne
     have hsame:∀ b,w.heap.size≤b→b<w3.heap.size→b≠w.heap.size+1→u.heap[b]?=w3.heap[b]?:=fun b hb0 hb hne=>(hso b hb0 (by omega) hne).trans (hBr.block b hb)
     clear hwf hu
     subst hV'
     refine⟨MG.out,rfl,?_,?_,rF.map (fun x:Iu=>Value.slice x.1 x.2.1 x.2.2),?_,?_,?_⟩
     ·have h1:Own u W.heap.size 3 1 encI (.slice la' k IQ) (sets.map (iP N)):=hown.same fun g hg=>hso g (by have h2:=(hown.blk hg).1;omega) (hown.blk hg).2 (by have h2:=(hown.blk hg).1;omega)
      exact h1.slice kJ
     ·have h1:Own u w3.heap.size 9 1 jl (.slice ma names.length mc) names:=aeI.out.same fun g hg=>by
       obtain⟨h2,h3⟩:=aeI.out.blk hg
       rw[hso g (by omega) (by have:=ru.size;omega) (by omega)]
       refine ru.block g h3 fun e=>?_
       obtain⟨_,c2,b2⟩:=aeI.out.block g hg
       rw[e] at b2
       exact absurd (b2.iD ajX.out) (by decide)
      exact h1.slice pX
     ·have h1:=apd.out
      rw[HNV.out] at h1
      have h2:Own u base 24 1 xU (.slice Au rF.length Aw) rF:=h1.same fun g hg=>hsame g (by have h2:=(h1.blk hg).1;have:=apf.out;have:=hb2.size;omega) (h1.blk hg).2 fun e=>by
       obtain⟨_,c2,b2⟩:=h1.block g hg
       rw[e] at b2
       exact absurd (b2.iD HY3.out) (by decide)
      exact(h2.slice Ec).slV
     ·rw[List.length_map];exact KQ.out
     ·intro i h1 h2
      rw[List.length_map] at h1
      obtain⟨a,c,m1,m2⟩:=ape.out i h1 h2
      refine⟨a,c,by rw[List.getElem_map,m1],m2.1.Gi fun ad e hlt=>hsame _ (by have h3:=YW.out ad.block (m2.2 ad _ _ (by rw[e]));have h4:=hy2.lt;omega) hlt ?_⟩
      have h3:=YW.out ad.block (m2.2 ad _ _ (by rw[e]))
      have h4:=hy2.lt
      omega
    have HRD:=ah hrd;have apj:=ah hbx;have apk:=ah ajZ
    rw[←hwf] at HRD
    have hfin:=hR0.setRow V'.cells
    clear hown hrd hbx ajZ hBr hV' ru hwf
    go_wp2_with (first | (refine ak (by rfl) 27 _ rfl tb rfl _ _ _ _ apj.out Tryz.underlying27 rfl (ay _) ?_) | (refine wpList_store_row rfl 27 _ _ rfl (w.heap.size+1) _ rfl rfl _ _ hR0 (ay _) (aA.sizes _ _) (aA.all _) ?_))
    refine bodyPost_ret (jP rfl _ _ (w.heap.size+1) 27 _ (.int .i64 0) rfl rfl hfin Tryz.underlying27 rfl (ay _)) rfl ?_
    exact⟨below_setRow apk.out (by omega) _,V',rfl,HRD.out.1,HRD.out.2⟩
end
section
open Go.RowKit
theorem aj1(N:Nf)(V:Y3)(names:List (List UInt8))(na:Option Addr)(nc most:Nat)(w:World)(h:sK w N V)(hw:N.wf)(h0:0<N.states)(hs:N.states≤65536)(hn:au w (.slice na names.length nc) 1 jl names)(hnl:∀ x∈names,x.length≤9223372036854775807)
  (hlk:N.links.length≤1099511627776) (he:N.edges.length≤65536) (hm1:1≤most) (hm2:most≤65536) (hT:Tab w) (h64:names.length≤1099511627776) :
  Calls Tryz.prog 66 #[.agg (dL N V),.slice na names.length nc,.int .i64 most] w (Ar w (Dk N names most)):=by
 unfold Dk
 by_cases hy:yI N names=true
 ·rw[if_pos hy]
  cases hb:kD N most (iJ N) (most+1) 0 [gB N [0]] [] with
  | none=>exact Zb N V names na nc most w h hw h0 hs hn hnl hlk he hm1 hm2 hT hy hb
  | some r=>exact abZ N V names na nc most w h hw h0 hs hn hnl hlk he hm1 hm2 hT hy h64 r.1 r.2 hb
 ·rw[if_neg hy]
  exact abY N V names na nc most w h hw h0 hs hn hnl (by simpa using hy)
def Az(L:List (List UInt8×Tr))(most:Nat):Sum Nat aQ:=if rV L=true then (if qA (L.map (·.2))≤65536 then Dk (sF (L.map (·.2))) (L.map (·.1)) most else .inl 7) else .inl 6
theorem VG{L:List (List UInt8×Tr)}(h:rV L=true):L.length≤64∧∀ x∈L,jg x.2=true:=by
 unfold rV qo at h
 simp only[Bool.and_eq_true,decide_eq_true_eq,List.all_eq_true] at h
 refine⟨h.1,fun x hx=>?_⟩
 obtain⟨i,hi,rfl⟩:=List.mem_iff_getElem.1 hx
 have:=h.2 i (List.mem_range.2 hi)
 unfold Af at this
 rw[List.getElem?_eq_getElem hi] at this
 simp only[Bool.and_eq_true] at this
 exact this.2
theorem Um(Rs:List (List UInt8×Vt))(a:Option Addr)(n cap most:Nat)(w:World)(h:au w (.slice a n cap) 9 jk Rs)(hL:∀ i (h:i<Rs.length),Lies w Rs[i].2)(hnm:∀ x∈Rs,x.1.length≤9223372036854775807)(hno:rV (Rs.map yV)=false) :
  Calls Tryz.prog 36 #[.slice a n cap,.int .i64 most] w (Ar w (.inl 6)):=by
 have hb0:=aj w (.cells Vz.cells 27)
 have hy0:=Box.new w Vz.cells 27
 have HR:=ah (fun u (hu:Below w.heap.size w u)=>hno▸LG a cap n Rs u (h.kept hu) (fun i hi=>(hL i hi).kept hu) hnm)
 have hsz:Vz.cells.size=260:=aA.size _
 clear h hL hnm hno
 obtain⟨W1,hW1⟩:∃ W1,w.alloc (.cells Vz.cells 27)=W1:=⟨_,rfl⟩
 rw[hW1] at hb0 hy0
 have HW1:=ah hW1
 clear hW1
 go_enter Tryz.func36,Tryz.ntmps36
 go_wp2_with fail
 simp only[fO,HW1.out]
 refine(HR.out _ hb0).mono ?_
 rintro e w2 ⟨rfl,hb2⟩
 have hy2:=hy0.kept hb2
 go_wp2_with (first | (simp only[fO];refine wpList_store_row rfl 27 _ _ rfl w.heap.size _ rfl rfl _ _ hy2 (ay _) rfl (aA.all _) ?_))
 have hfin:=hy2.setRow Vz.cells
 refine bodyPost_ret (jP rfl _ _ w.heap.size 27 _ (.int .i64 6) rfl rfl hfin Tryz.underlying27 rfl (ay _)) rfl ?_
 exact⟨below_setRow (hb0.trans (hb2.mono hb0.size)) (Nat.le_refl _) _,rfl⟩
theorem Qa(Rs:List (List UInt8×Vt))(a:Option Addr)(n cap most:Nat)(w:World)(h:au w (.slice a n cap) 9 jk Rs)(hL:∀ i (h:i<Rs.length),Lies w Rs[i].2)(hnm:∀ x∈Rs,x.1.length≤9223372036854775807)(hyes:rV (Rs.map yV)=true)(hT:Tab w)(hm1:1≤most)(hm2:most≤65536) :
  Calls Tryz.prog 36 #[.slice a n cap,.int .i64 most] w (Ar w (if qA (Rs.map fun x=>x.2.tr)≤65536 then Dk (sF (Rs.map fun x=>x.2.tr)) (Rs.map (·.1)) most else .inl 7)):=by
 obtain⟨aeJ,hall⟩:=VG hyes
 rw[List.length_map] at aeJ
 have hright:∀ x∈Rs,jg x.2.tr=true:=fun x hx=>hall (yV x) (List.mem_map.2 ⟨x,hx,rfl⟩)
 have hb0:=aj w (.cells Vz.cells 27)
 have hy0:=Box.new w Vz.cells 27
 have HR:=ah (fun u (hu:Below w.heap.size w u)=>hyes▸LG a cap n Rs u (h.kept hu) (fun i hi=>(hL i hi).kept hu) hnm)
 have hsz:Vz.cells.size=260:=aA.size _
 obtain⟨b,o,hn,hcap,hcap2,ha,hx⟩:=h.open
 have HX:=ah hx;have HA:=ah ha;have HN:=ah hn;have HL:=ah hL;have oW:=ah hnm;have OL:=ah hright;have Tz:=ah hT;have H64:=ah aeJ
 have qU:n≤64:=by omega
 obtain⟨bodies,aeK⟩:∃ l,Rs.map (·.2)=l:=⟨_,rfl⟩
 obtain⟨names,aeL⟩:∃ l,Rs.map (·.1)=l:=⟨_,rfl⟩
 have aj2:(Rs.map fun x=>x.2.tr)=bodies.map Vt.tr:=by rw[←aeK,List.map_map];rfl
 rw[aj2,aeL]
 obtain⟨ANS,hA⟩:∃ ANS,(if qA (bodies.map Vt.tr)≤65536 then Dk (sF (bodies.map Vt.tr)) names most else .inl 7)=ANS:=⟨_,rfl⟩
 rw[hA]
 have lT:=ah hA
 clear hA
 have MG:=ah aeK;have mX:=ah aeL
 clear h hL hnm hyes hx ha hn hright hT hall aeJ aeK aeL aj2
 obtain⟨W1,hW1⟩:∃ W1,w.alloc (.cells Vz.cells 27)=W1:=⟨_,rfl⟩
 rw[hW1] at hb0 hy0
 have HW1:=ah hW1
 clear hW1
 go_enter Tryz.func36,Tryz.ntmps36
 go_wp2_with fail
 simp only[fO,HW1.out]
 refine(HR.out _ hb0).mono ?_
 rintro e w2 ⟨rfl,hb2⟩
 go_wp2
 have hB2:=hb0.trans (hb2.mono hb0.size)
 have hy2:=hy0.kept hb2
 have HB2:=ah hB2;have HY2:=ah hy2
 clear hB2 hy2 hb2 hb0 hy0 HR
 go_loopw [6,7,18] (fun v6 v7 v18 wr=>∃ (k:Nat) (aB:Option Addr) (qB cB:Nat) (aN:Option Addr) (qN cN:Nat),k≤n∧v18=.int .i64 k∧v6=.slice aB qB cB∧v7=.slice aN qN cN∧Own wr w2.heap.size 115 8 Vt.cells (.slice aB qB cB) (bodies.take k)∧Own wr w2.heap.size 9 1 jl (.slice aN qN cN) (names.take k)∧Below w2.heap.size w2 wr) (fun _ _ v18 _=>n - (intOf v18).toNat)
 case atStart=>exact⟨0,none,0,0,none,0,0,Nat.zero_le _,rfl,rfl,rfl,Own.nil _ _ _ _ _,Own.nil _ _ _ _ _,Below.refl _ _⟩
 case round =>
  obtain⟨k,aB,qB,cB,aN,qN,cN,hk,rfl,rfl,rfl,hob,hon,hB⟩:=hrel
  have hBw:Below w.heap.size w wr:=HB2.out.trans (hB.mono HB2.out.size)
  by_cases hlt:k<n
  ·have hk2:k<Rs.length:=by rw[←HN.out];exact hlt
   obtain rfl:=HA.out k hk2
   have hy:∀ j u,(jk Rs[k])[j]?=some u→wr.cell? ⟨b,o+k*9+j,none⟩=some u:=fun j u hu=>by
    have:=HX.out k hk2 j u hu
    rw[hBw.cell (World.block_lt_of_cell? w _ this)];exact this
   have htb:bodies.take (k+1)=bodies.take k++[Rs[k].2]:=by
    rw[←MG.out,←List.map_take,←List.map_take,List.take_succ_eq_append_getElem hk2,List.map_append];rfl
   have htn:names.take (k+1)=names.take k++[Rs[k].1]:=by
    rw[←mX.out,←List.map_take,←List.map_take,List.take_succ_eq_append_getElem hk2,List.map_append];rfl
   have hlb:(bodies.take k).length≤k:=List.length_take_le _ _
   have hln:(names.take k).length≤k:=List.length_take_le _ _
   generalize bodies.take k=bk at *
   generalize names.take k=nk at *
   generalize Rs[k]=x at *
   obtain⟨nm,⟨k5,s5,a5,cp5,cZ,dh,hi5⟩⟩:=x
   have y0:=hy 0 _ rfl
   have y1:=hy 1 _ rfl
   have y2:=hy 2 _ rfl
   have y3:=hy 3 _ rfl
   have y4:=hy 4 _ rfl
   have y5:=hy 5 _ rfl
   have y6:=hy 6 _ rfl
   have y7:=hy 7 _ rfl
   have y8:=hy 8 _ rfl
   have hbl:=World.block_lt_of_cell? wr _ y0
   simp only[Nat.add_zero] at y0
   have hki:(k:Int)<(n:Int):=by omega
   have hk0:(0:Int)≤(k:Int):=by omega
   obtain⟨R9,hR9⟩:∃ R9:Array Value,#[sv nm,.int .i64 k5,.int .u64 (word s5 0:Nat),.int .u64 (word s5 1:Nat),.int .u64 (word s5 2:Nat),.int .u64 (word s5 3:Nat),.slice a5 cZ.length cp5,.int .i64 dh,.int .i64 hi5]=R9:=⟨_,rfl⟩
   have hq1:=hob.open.1
   have hq2:=hon.open.1
   have hB1:=aj wr (.cells #[sv nm,.int .i64 k5,.int .u64 (word s5 0:Nat),.int .u64 (word s5 1:Nat),.int .u64 (word s5 2:Nat),.int .u64 (word s5 3:Nat),.slice a5 cZ.length cp5,.int .i64 dh,.int .i64 hi5] 117)
   have aeM:=hob.kept hB1
   have apl:=hon.kept hB1
   have hbox:=Box.new wr #[sv nm,.int .i64 k5,.int .u64 (word s5 0:Nat),.int .u64 (word s5 1:Nat),.int .u64 (word s5 2:Nat),.int .u64 (word s5 3:Nat),.slice a5 cZ.length cp5,.int .i64 dh,.int .i64 hi5] 117
   have NM:=hB.trans (hB1.mono hB.size)
   have apm:=ah htb;have HTN:=ah htn;have HOB:=ah hob;have OT:=ah hon;have HQ1:=ah hq1;have HQ2:=ah hq2;have HBB:=ah hB
   have hbs:=hB.size
   clear hy htb htn hob hon hq1 hq2 hB hBw hR9
   go_wp2_with (first | (at_builtin;(refine dK rfl _ _ 109 rfl Fe DT rfl (aeM.alloc _) ⟨wr.heap.size+1,0,none⟩ 1 (Vt.mk k5 s5 a5 cp5 cZ dh hi5) rfl (by rw[←World.size_alloc wr (.cells #[sv nm,.int .i64 k5,.int .u64 (word s5 0:Nat),.int .u64 (word s5 1:Nat),.int .u64 (word s5 2:Nat),.int .u64 (word s5 3:Nat),.slice a5 cZ.length cp5,.int .i64 dh,.int .i64 hi5] 117)];exact bW _ (Vt.cells (Vt.mk k5 s5 a5 cp5 cZ dh hi5)) _) (by simp only[maxLen];omega) (by omega) (by simp only[World.size_alloc];omega) ?_;intro a7 c7 w7 gJ dn;have hbk:=(dn.block wr.heap.size (by simp only[World.size_alloc];omega) (fun e'=>by { have:=(HOB.out.blk e'.symm).2;omega })).trans (hbox.kept (aj _ (.cells (Vt.cells (Vt.mk k5 s5 a5 cp5 cZ dh hi5)).toArray 115)));have z0:w7.cell? ⟨wr.heap.size,0,none⟩=some (sv nm):=Box.cell hbk 0;have lz:=Box.lt hbk;have aeN:=(apl.alloc (.cells (Vt.cells (Vt.mk k5 s5 a5 cp5 cZ dh hi5)).toArray 115)).cu (aeM.alloc _) dn (by decide))) | (at_builtin;go_must (refine dK rfl _ _ 25 rfl OV pX rfl (aeN.alloc _) ⟨w7.heap.size,0,none⟩ 1 nm rfl (bW w7 [sv nm] _) (by simp only[maxLen];omega) (by omega) (by have:=dn.size;simp only[World.size_alloc] at *;omega) ?_;intro a9 c9 w9 yT wo)))
   have JJ:=(gJ.alloc (.cells #[sv nm] 9)).cu (aeN.alloc _) wo (by decide)
   have hs7:=dn.size
   have hBc:=NM.alloc NM.size (.cells (Vt.cells (Vt.mk k5 s5 a5 cp5 cZ dh hi5)).toArray 115)
   have iH:=below_grown hBc (aeM.alloc _) dn (Nat.le_refl _) hBc.size
   have jZ:=iH.alloc iH.size (.cells #[sv nm] 9)
   have dw:=below_grown jZ (aeN.alloc _) wo (Nat.le_refl _) jZ.size
   exact⟨⟨k+1,a7,_,c7,a9,_,c9,hlt,by push_cast;rfl,rfl,rfl,by rw[apm.out];exact JJ,by rw[HTN.out];exact yT,dw⟩,by simp[intOf];omega⟩
  ·obtain rfl:k=n:=by omega
   have hkb:bodies.take k=bodies:=List.take_of_length_le (by rw[←MG.out,List.length_map,HN.out];exact Nat.le_refl _)
   have hkn:names.take k=names:=List.take_of_length_le (by rw[←mX.out,List.length_map,HN.out];exact Nat.le_refl _)
   rw[hkb] at hob
   rw[hkn] at hon
   have hq1:=hob.open.1
   have hq2:=hon.open.1
   subst hq1
   subst hq2
   have hlies:∀ i (h:i<bodies.length),Lies wr bodies[i]:=fun i hi=>by
    have hi2:i<Rs.length:=by rw[←MG.out,List.length_map] at hi;exact hi
    have e:bodies[i]=Rs[i].2:=by simp only[←MG.out,List.getElem_map]
    rw[e];exact(HL.out i hi2).kept hBw
   have hrt:∀ x∈bodies,jg x.tr=true:=fun x hx=>by
    rw[←MG.out] at hx
    obtain⟨y,hy,rfl⟩:=List.mem_map.1 hx
    exact OL.out y hy
   have hb64:bodies.length≤64:=by rw[←MG.out,List.length_map];exact H64.out
   have asq:names.length≤64:=by rw[←mX.out,List.length_map];exact H64.out
   have aj7:=ai3 bodies aB cB wr (hob.slice DT) hlies (fun i hi=>hrt _ (List.getElem_mem hi)) hb64
   have F7:∀ x∈names,x.length≤9223372036854775807:=fun x hx=>by
    rw[←mX.out] at hx
    obtain⟨y,hy,rfl⟩:=List.mem_map.1 hx
    exact oW.out y hy
   have aj8:∀ x∈bodies.map Vt.tr,jg x=true:=fun x hx=>by
    obtain⟨y,hy,rfl⟩:=List.mem_map.1 hx
    exact hrt y hy
   have hok:=agK (bodies.map Vt.tr) (by rw[List.length_map];exact hb64)
   have hsm:=LX (bodies.map Vt.tr) aj8
   have Di:=ah (HY2.out.kept hB);have tq:=ah hBw;have OT:=ah hon;have qC:=ah hok;have wK:=ah hsm;have KX:=ah aj7;have apn:=ah F7
   have HTW:=ah (Tz.out.kept hBw)
   clear hob hon hB hlies hrt aj7 aj8 hok hsm F7 hBw hkb hkn
   by_cases hbig:qA (bodies.map Vt.tr)≤65536
   ·obtain⟨hg1,hg2,hg3,hg4⟩:=wK.out hbig
    obtain⟨hwf,vW⟩:=qC.out
    have hst:(sF (bodies.map Vt.tr)).states≤65536:=by unfold sF;rw[hwf.st];exact hg2
    have hans:=lT.out
    rw[if_pos hbig] at hans
    have hof:=fun(V:Y3) (u:World) (hu:Below wr.heap.size wr u) (hA:sK u (sF (bodies.map Vt.tr)) V)=>aj1 (sF (bodies.map Vt.tr)) V names aN cN most u hA hwf vW hst ((OT.out.kept hu).slice pX) apn.out (by unfold sF;omega) hg3 hm1 hm2 (HTW.out.kept hu) (by omega)
    rw[hans] at hof
    have yR:=ah hof
    have hnf:Calls Tryz.prog 65 #[.slice aB bodies.length cB] wr fun e w'=>Below wr.heap.size wr w'∧∃ V,sK w' (sF (bodies.map Vt.tr)) V∧e=.returned (.tuple #[.agg (dL (sF (bodies.map Vt.tr)) V),.int .i64 0]):=KX.out.mono fun e w' h=>⟨h.1,by have:=h.2;rwa[if_pos hbig] at this⟩
    have Zc:=ah hnf
    clear hnf hof hans KX wK qC hbig hg1 hg2 hg3 hg4 hwf vW hst
    generalize sF (bodies.map Vt.tr)=NN at *
    go_wp2_with fail
    refine Zc.out.mono ?_
    rintro e w4 ⟨hb4,V,hA,rfl⟩
    have aj9:=yR.out V _ (hb4.alloc hb4.size (.cells (dL NN V) 121)) (hA.kept (aj w4 (.cells (dL NN V) 121)))
    have hB4:=tq.out.trans ((hb4.alloc hb4.size (.cells (dL NN V) 121)).mono tq.out.size)
    have hy4:=Di.out.kept (hb4.alloc hb4.size (.cells (dL NN V) 121))
    obtain⟨vl,ve,va⟩:=V
    obtain⟨la,lc,hvl⟩:=hA.li.form
    obtain⟨ea,ec,mP⟩:=hA.ed.form
    obtain⟨aa,ac,hva⟩:=hA.ac.form
    dsimp only at hvl mP hva
    subst hvl
    subst mP
    subst hva
    unfold dL at *
    dsimp only at *
    have HF4:=ah aj9;have HB4:=ah hB4;have HY4:=ah hy4
    clear aj9 hB4 hy4 hA hb4 yR Zc
    cases ANS with
    | inl c =>
     go_wp2_with (first | (go_at_call 66;go_must (refine HF4.out.mono ?_;rintro e w5 ⟨hb5,rfl⟩;have PK:=HY4.out.kept hb5)) | (refine wpList_store_row rfl 27 _ _ rfl w.heap.size _ rfl rfl _ _ PK (ay _) (aA.sizes _ _) (aA.all _) ?_))
     have hfin:=PK.setRow Vz.cells
     refine bodyPost_ret (jP rfl _ _ w.heap.size 27 _ (.int .i64 c) rfl rfl hfin Tryz.underlying27 rfl (ay _)) rfl ?_
     exact⟨below_setRow (HB4.out.trans (hb5.mono HB4.out.size)) (Nat.le_refl _) _,rfl⟩
    | inr D =>
     go_wp2_with (first | (go_at_call 66;go_must (refine HF4.out.mono ?_;rintro e w5 ⟨hb5,V',rfl,hrd,apo⟩;have PK:=HY4.out.kept hb5)) | (refine wpList_store_row rfl 27 _ _ rfl w.heap.size _ rfl rfl _ _ PK (ay _) (aA.sizes _ _) (aA.all _) ?_))
     have hfin:=PK.setRow V'.cells
     refine bodyPost_ret (jP rfl _ _ w.heap.size 27 _ (.int .i64 0) rfl rfl hfin Tryz.underlying27 rfl (ay _)) rfl ?_
     refine⟨below_setRow (HB4.out.trans (hb5.mono HB4.out.size)) (Nat.le_refl _) _,V',rfl,fun u hu=>hrd u (fun b hb1 hb2=>?_),apo⟩
     have hlt:=HY4.out.lt
     have hne:b≠w.heap.size:=by have:=HB4.out.size;omega
     have hge:w.heap.size≤b:=by have:=HB4.out.size;omega
     rw[hu b hge (by rw[size_setRow];exact hb2)]
     exact setRow_other w5 _ b _ hne
   ·have hnf:Calls Tryz.prog 65 #[.slice aB bodies.length cB] wr fun e w'=>Below wr.heap.size wr w'∧e=.returned (.tuple #[.agg #[.int .i64 0,.int .i64 0,.slice none 0 0,.slice none 0 0,.slice none 0 0],.int .i64 7]):=KX.out.mono fun e w' h=>⟨h.1,by have:=h.2;rwa[if_neg hbig] at this⟩
    have Zc:=ah hnf
    have hans:=lT.out
    rw[if_neg hbig] at hans
    subst hans
    clear hnf KX wK qC hbig lT
    go_wp2_with (first | (go_at_call 65;go_must (refine Zc.out.mono ?_;rintro e w4 ⟨hb4,rfl⟩;have hy4:=(Di.out.kept hb4).kept (aj w4 (.cells #[.int .i64 0,.int .i64 0,.slice none 0 0,.slice none 0 0,.slice none 0 0] 121)))) | (simp only[fO];refine wpList_store_row rfl 27 _ _ rfl w.heap.size _ rfl rfl _ _ hy4 (ay _) (aA.sizes _ _) (aA.all _) ?_))
    have hfin:=hy4.setRow Vz.cells
    refine bodyPost_ret (jP rfl _ _ w.heap.size 27 _ (.int .i64 7) rfl rfl hfin Tryz.underlying27 rfl (ay _)) rfl ?_
    exact⟨below_setRow (tq.out.trans ((hb4.alloc hb4.size _).mono tq.out.size)) (Nat.le_refl _) _,rfl⟩
theorem ab1(Rs:List (List UInt8×Vt))(a:Option Addr)(n cap most:Nat)(w:World)(h:au w (.slice a n cap) 9 jk Rs)(hL:∀ i (h:i<Rs.length),Lies w Rs[i].2)(hnm:∀ x∈Rs,x.1.length≤9223372036854775807)(hT:Tab w)(hm1:1≤most)(hm2:most≤65536) :
  Calls Tryz.prog 36 #[.slice a n cap,.int .i64 most] w (Ar w (Az (Rs.map yV) most)):=by
 unfold Az
 by_cases hr:rV (Rs.map yV)=true
 ·rw[if_pos hr,List.map_map,List.map_map]
  exact Qa Rs a n cap most w h hL hnm hr hT hm1 hm2
 ·rw[if_neg hr]
  exact Um Rs a n cap most w h hL hnm (by simpa using hr)
end
section
open Go.RowKit
structure asr(R:World→Prop)(V:aA)(D:aQ)(n wd lb lo nb no vb:Nat)(rb ro rc:Nat→Nat):Prop where
 nl:D.label.length=n
 vof:V.of=D.of
 ln:V.ln=n
 nn:V.nn=n
 la:V.la=some ⟨lb,lo,none⟩
 na:V.na=some ⟨nb,no,none⟩
 Ll:1≤n∧n≤65536
 Wp:1≤wd∧wd≤256
 lc:n≤V.lc∧V.lc≤9223372036854775807
 nc:n≤V.nc∧V.nc≤9223372036854775807
 lab:∀ k,k<n→∀ u:World,R u→u.cell? ⟨lb,lo+k,none⟩=some (.int .i64 (labS D k))
 row:∀ s,s<n→∀ u:World,R u→u.cell? ⟨nb,no+s,none⟩=some (.slice (some ⟨rb s,ro s,none⟩) wd (rc s))
 cap:∀ s,s<n→wd≤rc s∧rc s≤9223372036854775807
 OZ:∀ s,s<n→∀ j,j<wd→∀ u:World,R u→u.cell? ⟨rb s,ro s+j,none⟩=some (.int .i64 (stepD D s j:Nat))
 lt:∀ s,s<n→∀ j,j<wd→stepD D s j<n
 of:∀ b,b<256→D.of b<wd
 liv:∀ k,k<n→∀ u:World,R u→u.cell? ⟨vb,k,none⟩=some (.bool (alH D k))
def Mid(sb top:Nat)(w0 u:World):Prop:=top≤u.heap.size∧∀ b,sb<b→b<top→u.heap[b]?=w0.heap[b]?
theorem Mid.only{sb top:Nat}{w0 u u':World}(h:Mid sb top w0 u)(k:iL sb u u'):Mid sb top w0 u':=⟨Nat.le_trans h.1 k.size,fun b h1 h2=>(k.block b (Nat.lt_of_lt_of_le h2 h.1) (Nat.ne_of_gt h1)).trans (h.2 b h1 h2)⟩
theorem Mid.later{sb top:Nat}{w0 u u':World}(h:Mid sb top w0 u)(k:Below u.heap.size u u'):Mid sb top w0 u':=h.only (iL.below k)
end
section
open Go.RowKit
theorem iL.slice{α:Type}{g:Nat}{w w':World}{a:Option Addr}{n cap size:Nat}{enc:α→List Value}{xs:List α}(k:iL g w w')(h:au w (.slice a n cap) size enc xs)(hg:∀ ad,a=some ad→ad.block≠g):au w' (.slice a n cap) size enc xs :=
 h.Gi fun ad ha hl=>k.block _ hl (hg ad ha)
end
end Go.Proofs.YtengfapcaaacaaaGreatDoor
