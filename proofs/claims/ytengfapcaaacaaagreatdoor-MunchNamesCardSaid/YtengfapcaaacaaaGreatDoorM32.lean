/- The texts of N32, in few letters (mini.py). -/
import Derived.Test.YtengfapcaaacaaaGreatDoorM31
set_option linter.unusedVariables false
set_option linter.unusedSimpArgs false
set_option maxRecDepth 20000
set_option maxHeartbeats 6400000
namespace Go.Proofs.YtengfapcaaacaaaGreatDoor
open Go.RowKit
theorem G9(N:Nf)(l:List Nat):yj N.states (fM N l):=⟨_,Fp _ _ _ _ (Jj _ _ _ (Nat.pos_of_ne_zero (by simp))),rfl⟩
theorem TN{sets:List (List Nat)}{l:List Nat}{j:Nat}(h:sets.idxOf? l=some j):cu sets l=(j,sets):=by unfold cu;rw[h]
theorem TP{sets:List (List Nat)}{l:List Nat}(h:sets.idxOf? l=none):cu sets l=(sets.length,sets++[l]):=by unfold cu;rw[h]
theorem I7(sets:List (List Nat))(l:List Nat):sets <+: (cu sets l).2:=by
 cases h:sets.idxOf? l with
 | some j=>rw[TN h];exact List.prefix_refl _
 | none=>rw[TP h];exact List.prefix_append _ _
theorem Pj(N:Nf)(most:Nat)(l:List Nat)(c:Nat)(low:List Nat)(sets:List (List Nat))(row:List Int):rowP N most l (c::low) sets row=if most<(cu sets (gZ N l c)).2.length then none else rowP N most l low (cu sets (gZ N l c)).2 (row++[((cu sets (gZ N l c)).1:Int)]):=rfl
theorem Pm(N:Nf)(most:Nat)(low:List Nat)(f i:Nat)(sets:List (List Nat))(next:List (List Int))(h:i<sets.length):jQ N most low (f+1) i sets next=match rowP N most (sets.getD i []) low sets [] with
  | none=>none
  | some (BI,row)=>jQ N most low f (i+1) BI (next++[row]):=by rw[jQ,if_pos h];rfl
theorem MP(N:Nf)(most:Nat)(low:List Nat)(f i:Nat)(sets:List (List Nat))(next:List (List Int))(h:¬ i<sets.length):jQ N most low f i sets next=some (sets,next):=by
 cases f with
 | zero=>rfl
 | succ f=>rw[jQ,if_neg h]
theorem TQ(N:Nf)(most:Nat)(l:List Nat):∀ (low:List Nat) (sets:List (List Nat)) (row:List Int) (r:List (List Nat)×List Int),rowP N most l low sets row=some r→sets <+: r.1∧(sets.length≤most→r.1.length≤most)
 | [],sets,row,r,h=>by
  rw[rowP] at h
  obtain rfl:=Option.some.inj h
  exact⟨List.prefix_refl _,id⟩
 | c::low,sets,row,r,h=>by
  rw[Pj] at h
  split at h
  ·cases h
  ·rename_i hm
   obtain⟨h1,h2⟩:=TQ N most l low _ _ r h
   exact⟨(I7 _ _).trans h1,fun _=>h2 (by omega)⟩
theorem jI.off{α:Type}{w w2:World}{qB b0 E:Nat}{inn:Nat→Prop}{bp mb:Nat}{B:jo}{kv:Value}{sets:List (List Nat)}{next:List (List Int)}{enc:α→List Value}{a:Option Addr}{n c:Nat}{xs:List α}(h:jI w qB inn bp mb B kv sets next)(hs:w.heap.size≤b0)(ho:Own w2 b0 E 1 enc (.slice a n c) xs) :
  ∀ ad,a=some ad→ad.block<w2.heap.size∧ad.block≠bp∧ad.block≠B.tb∧ad.block≠mb∧kv.ownBlock≠some ad.block∧B.sv.ownBlock≠some ad.block∧B.nv.ownBlock≠some ad.block:=by
 rintro ad rfl
 have hb:=ho.blk (g:=ad.block) rfl
 have h1:=h.box.lt
 have h2:=h.tab.box.lt
 have h3:=h.tab.mp.lt
 obtain⟨_,r1,_,_⟩:=h.rows
 obtain⟨_,r2,_,_⟩:=h.nexts
 exact⟨hb.2,by omega,by omega,by omega,fun e=>by have:=(h.tab.own.blk e).2;omega,fun e=>by have:=(r1.blk e).2;omega,fun e=>by have:=(r2.blk e).2;omega⟩
theorem jI.turn{w w2:World}{qB:Nat}{inn:Nat→Prop}{bp mb:Nat}{B:jo}{kv:Value}{sets:List (List Nat)}{next:List (List Int)}(h:jI w qB inn bp mb B kv sets next)(g0:Option Nat)(hs:w.heap.size≤w2.heap.size)(hk:∀ b,b<w.heap.size→g0≠some b→w2.heap[b]?=w.heap[b]?)
  (h0:∀ g,g0=some g→g≠bp∧g≠B.tb∧g≠mb∧¬ inn g∧kv.ownBlock≠some g∧B.sv.ownBlock≠some g∧B.nv.ownBlock≠some g):jI w2 qB inn bp mb B kv sets next:=by
 have hin:∀ b,inn b→b<w.heap.size→w2.heap[b]?=w.heap[b]?:=fun b hb hlt=>hk b hlt fun e=>(h0 b e).2.2.2.1 hb
 obtain⟨_,r1,_,_⟩:=h.rows
 obtain⟨_,r2,_,_⟩:=h.nexts
 refine⟨(hk bp h.box.lt fun e=>(h0 _ e).1 rfl).trans h.box,⟨(hk _ h.tab.box.lt fun e=>(h0 _ e).2.1 rfl).trans h.tab.box,h.tab.mp.same (hk mb h.tab.mp.lt fun e=>(h0 _ e).2.2.1 rfl),h.tab.own.same fun g hg=>hk g (h.tab.own.blk hg).2 fun e=>(h0 g e).2.2.2.2.1 hg,h.tab.lt⟩,
  h.rows.same hin (fun _ h=>h) fun g hg=>hk g (r1.blk hg).2 fun e=>(h0 g e).2.2.2.2.2.1 hg,h.nexts.same hin (fun _ h=>h) fun g hg=>hk g (r2.blk hg).2 fun e=>(h0 g e).2.2.2.2.2.2 hg,h.BJ,fun b hb=>Nat.lt_of_lt_of_le (h.BK b hb) hs,h.rG,h.JF,h.JG,h.JH,h.sn,h.lt,h.small,Nat.le_trans h.bs hs⟩
theorem jI.agc{w w7:World}{qB:Nat}{inn:Nat→Prop}{bp mb:Nat}{B:jo}{kv v':Value}{sets:List (List Nat)}{next:List (List Int)}{ra:Option Addr}{rc:Nat}{row:List Int}(h:jI w qB inn bp mb B kv sets next)(hrow:ak w (.slice ra row.length rc) 1 encI row)(I8:∀ ad,ra=some ad→inn ad.block){rl:List yI}
  (hrn:Own w qB 24 1 uz B.nv rl) (hrl:rl.length=next.length) (hre:∀ i (h1:i<rl.length) (h2:i<next.length),∃ a c,rl[i]=(a,next[i].length,c)∧dM w inn (.slice a next[i].length c) encI next[i])
  (iI:Own w7 qB 24 1 uz v' (rl++[(ra,row.length,rc)])) (dn:(w.alloc (.cells #[.slice ra row.length rc] 24)).grownBy w7 B.nv.ownBlock) (ug:v'.ownBlock=B.nv.ownBlock∨v'.ownBlock=some (w.alloc (.cells #[.slice ra row.length rc] 24)).heap.size) :
  jI (w7.setCell ⟨bp,261,none⟩ v') qB inn bp mb { B with nv:=v' } kv sets (next++[row])∧∀ b,b<w.heap.size→b≠bp→B.nv.ownBlock≠some b→(w7.setCell ⟨bp,261,none⟩ v').heap[b]?=w.heap[b]?:=by
 have hlt:=h.lt
 have htl:=h.tab.lt
 have s8:(w.alloc (.cells #[.slice ra row.length rc] 24)).heap.size=w.heap.size+1:=World.size_alloc _ _
 have sg:=dn.size
 have hk:∀ b,b<w.heap.size→b≠bp→B.nv.ownBlock≠some b→(w7.setCell ⟨bp,261,none⟩ v').heap[b]?=w.heap[b]?:=fun b hb n1 n2=>by
  rw[heap_setCell_other _ _ b _ n1,dn.block b (by omega) (fun e=>n2 e.symm)]
  exact(aj w _).block b hb
 obtain⟨r1l,r1,r1n,r1e⟩:=h.rows
 have hin:∀ b,inn b→b<w.heap.size→(w7.setCell ⟨bp,261,none⟩ v').heap[b]?=w.heap[b]?:=fun b hb hlt'=>hk b hlt' (fun e=>h.rG.1 (e▸hb)) (fun e=>h.JH b e hb)
 have hbx:Box w7 bp (dB B) 187:=(h.box.alloc _).grown (hrn.kept (aj w _)) dn hlt.1
 have hT:∀ g,B.nv.ownBlock=some g→kv.ownBlock≠some g:=fun g hg e=>by
  obtain⟨_,c1,b1⟩:=hrn.block g hg
  obtain⟨_,c2,b2⟩:=h.tab.own.block g e
  exact absurd (b1.lM b2) (by decide)
 refine⟨⟨?_,⟨(hk _ h.tab.box.lt hlt.2.1.symm fun e=>by have:=(hrn.blk e).1;omega).trans h.tab.box,h.tab.mp.same (hk mb h.tab.mp.lt hlt.2.2.symm fun e=>by have:=(hrn.blk e).1;omega),h.tab.own.same fun g hg=>hk g (h.tab.own.blk hg).2 (by have:=(h.tab.own.blk hg).1;omega) fun e=>hT g e hg,htl⟩,
  h.rows.same hin (fun _ h=>h) fun g hg=>hk g (r1.blk hg).2 (by have:=(r1.blk hg).1;omega) fun e=>h.sn g hg e,?_,h.BJ,fun b hb=>by have:=h.BK b hb;rw[World.size_setCell];omega,h.rG,h.JF,h.JG,?_,?_,hlt,h.small,by rw[World.size_setCell];have:=h.bs;omega⟩,hk⟩
 ·have:=hbx.set 261 v'
  rwa[U5] at this
 ·refine pK.snoc (rows:=rl) (x:=(ra,row.length,rc)) (iI.other _ _ hlt.1) hrl (fun i p q=>?_) (l:=row) (a:=ra) (c:=rc) rfl ?_
  ·obtain⟨a,c,m1,m2⟩:=hre i p q
   exact⟨a,c,m1,m2.same hin (fun _ h=>h)⟩
  ·exact⟨hrow.GU fun ad e hl=>hin _ (I8 ad e) hl,fun ad n' c' e=>I8 ad (Value.slice.inj e).1⟩
 ·intro g hg hi
  rcases ug with e | e
  ·exact h.JH g (e▸hg) hi
  ·have h1:v'.ownBlock=some g:=hg
   rw[e] at h1
   cases h1
   have:=h.BK _ hi;omega
 ·intro g hg hn
  have h1:v'.ownBlock=some g:=hn
  rcases ug with e | e
  ·exact h.sn g hg (e▸h1)
  ·rw[e] at h1
   cases h1
   have:=(r1.blk hg).2;omega
def JQ(N:Nf)(most:Nat)(low:List Nat)(qB h bp mb:Nat)(B:jo)(w:World)(e:Ending)(w':World):Prop :=
 Below h w w'∧match jQ N most low (most+1) 0 [fM N [0]] [] with
 | none=>e=.returned (.bool false)
 | some (sets,next)=>e=.returned (.bool true)∧∃ inn kv sv nv,jI w' qB inn bp mb { B with sv:=sv,nv:=nv } kv sets next∧dM w' inn B.lo gY low∧∀ b,inn b→h≤b
def aj6(N:Nf)(most:Nat)(low:List Nat)(qB h bp mb:Nat)(B:jo)(R:Option (List (List Nat)×List (List Int)))(w:World)(i:Nat)(wr:World):Prop :=
 ∃ (f:Nat) (inn:Nat→Prop) (kv sv nv:Value) (sets:List (List Nat)) (next:List (List Int)),jI wr qB inn bp mb { B with sv:=sv,nv:=nv } kv sets next∧(dM wr inn B.lo gY low∧∀ b,inn b→h≤b)∧Below h w wr∧jQ N most low f i sets next=R∧f+i=most+1∧sets.length≤most∧next.length=i
def amr(N:Nf)(most:Nat)(low:List Nat)(qB h bp mb:Nat)(B:jo)(nv:Value)(l:List Nat)(sets:List (List Nat))(next:List (List Int))(RR:Option (List (List Nat)×List Int))(w:World)(rb:Nat)(rv:Value)(j:Nat)(wq:World):Prop :=
 ∃ (inn:Nat→Prop) (kv sv:Value) (BI:List (List Nat)) (row:List Int),jI wq qB inn bp mb { B with sv:=sv,nv:=nv } kv BI next∧(dM wq inn B.lo gY low∧∀ b,inn b→h≤b)∧Below h w wq∧sets <+: BI∧rowP N most l (low.drop j) BI row=RR∧BI.length≤most ∧
  Own wq rb 3 1 encI rv row∧row.length=j∧rb≤wq.heap.size∧∀ g,rv.ownBlock=some g→¬ inn g∧kv.ownBlock≠some g∧sv.ownBlock≠some g∧nv.ownBlock≠some g
theorem adB(N:Nf)(lb eb:Nat)(kl ke:List (Int×Value))(va:Value)(most:Nat)(low:List Nat)(qB h bp mb:Nat)(B:jo)(kv:Value)(inn:Nat→Prop)(w:World)(hT:Tab w)(hM:vX w B.m lb eb kl ke va N)(hB:jI w qB inn bp mb B kv [] [])(hlo:dM w inn B.lo gY low)(qA:∀ b,inn b→h≤b)
  (hst:B.st=N.states) (h0:0<N.states) (hm1:1≤most) (hm2:most≤65536) (hlow:low.length≤256) (hlow2:∀ x∈low,x<256) (hh:h≤bp∧h≤B.tb∧h≤mb∧h≤qB) (hMh:∀ u,Below h w u→vX u B.m lb eb kl ke va N) (hTh:∀ u,Below h w u→Tab u) :
  Calls Tryz.prog 156 #[.pointer (some ⟨bp,0,none⟩),.int .i64 most] w (JQ N most low qB h bp mb B w):=by
 have hstart:=adw B.m lb eb kl ke va N w hT hM h0
 have hset:=G9 N [0]
 have x0:w.cell? ⟨bp,0,none⟩=some (.pointer (some ⟨B.m,0,none⟩)):=(hB.box.cell 0).trans (jW B)
 have hbl:=hB.box.lt
 have hhw:h≤w.heap.size:=by omega
 obtain⟨R,hR⟩:∃ R,jQ N most low (most+1) 0 [fM N [0]] []=R:=⟨_,rfl⟩
 have HS:=ah hstart;have HB:=ah hB;have HLO:=ah hlo;have HR:=ah hR;have HST:=ah hst;have yR:=ah hset;have HM:=ah hMh;have HT:=ah hTh;have HLW:=ah hlow2;have Yf:=ah qA
 clear qA
 clear hstart hB hlo hR hst hset hMh hTh hM hT hlow2
 go_enter Tryz.func156,Tryz.ntmps156
 go_wp2
 refine wp_scope_straight ?_
 go_wp2_with (go_at_call 202;go_must (refine HS.out.mono ?_;rintro e w2 ⟨a2,c2,rfl,ho2,hb2⟩))
 have hnum:=OZ qB inn bp mb B kv [] [] (fM N [0]) a2 (fM N [0]).length c2 w2 (HB.out.kept hb2) (ho2.slice dN) (by rw[HST.out];exact yR.out) (by simp) (HB.out.off (Nat.le_refl _) ho2)
 refine hnum.mono ?_
 rintro e w3 ⟨rfl,kv3,sv3,hB3,hK3⟩
 have hbw3:Below h w w3:=by
  obtain⟨_,r1,_,_⟩:=HB.out.rows
  refine(hb2.mono hhw).trans ⟨hK3.os,hK3.tape,hK3.output,hK3.size,fun b hb=>hK3.block b (by have:=hb2.size;omega) (by omega) (by omega) (by omega) (fun e=>?_) (fun e=>?_)⟩
  ·have:=(HB.out.tab.own.blk e).1;omega
  ·have:=(r1.blk e).1;omega
 have hlo3:dM w3 (fun b=>inn b∨∃ ad,a2=some ad∧ad.block=b) B.lo gY low:=by
  have hl2:dM w2 inn B.lo gY low:=HLO.out.same (fun b _ hlt=>hb2.block b hlt) (fun _ h=>h)
  have hB2:=HB.out.kept hb2
  refine hl2.same (fun b hb hlt=>hK3.block b hlt (fun e=>hB2.rG.1 (e▸hb)) (fun e=>hB2.rG.2.1 (e▸hb)) (fun e=>hB2.rG.2.2 (e▸hb)) (fun e=>hB2.JF b e hb) (fun e=>hB2.JG b e hb)) (fun b hb=>.inl hb)
 have Ro:∀ b,(inn b∨∃ ad,a2=some ad∧ad.block=b)→h≤b:=by
  rintro b (hb | ⟨ad,rfl,rfl⟩)
  ·exact Yf.out b hb
  ·have:=(ho2.blk (g:=ad.block) rfl).1;omega
 have hn1:(cu [] (fM N [0])).2=[fM N [0]]:=rfl
 rw[hn1] at hB3
 generalize hi3:(fun b=>inn b∨∃ ad,a2=some ad∧ad.block=b)=ait at *
 replace Ro:∀ b,ait b→h≤b:=fun b hb=>Ro b (by rw[←hi3] at hb;exact hb)
 clear hi3
 have HB3:=ah hB3;have HL3:=ah (And.intro hlo3 Ro);clear Ro;have HW3:=ah hbw3
 clear hnum hB3 hK3 hbw3 hlo3 hn1 ho2 hb2
 go_wp2
 refine wp_label ?_
 go_wp2
 go_loopw [5] (fun v wr=>∃ i:Nat,v=.int .i64 i∧i≤most∧aj6 N most low qB h bp mb B R w i wr) (fun v _=>most+1 - (intOf v).toNat)
 case atStart=>exact⟨0,rfl,Nat.zero_le _,most+1,ait,kv3,sv3,B.nv,_,_,HB3.out,HL3.out,HW3.out,HR.out,rfl,hm1,rfl⟩
 case round =>
  obtain⟨i,rfl,him,f,JE,kv',sv',Pn,sets,next,hB,⟨hlo,hin'⟩,hBw,hbp,hfi,hsm,hnx⟩:=hrel
  have HIN:=ah hin'
  clear hin'
  have Aw:=ah hnx
  clear hnx
  have hx:=hB.box
  obtain⟨pz,hro,hrl,hre⟩:=hB.rows
  obtain⟨sa,sc,hsv⟩:=hro.form
  dsimp only at hsv
  subst hsv
  rw[hrl] at hro
  have x5:wr.cell? ⟨bp,260,none⟩=some (.slice sa pz.length sc):=(hx.cell 260).trans (ku _)
  have Gm:=hx.lt
  rw[hrl] at x5
  by_cases hlt:i<sets.length
  ·obtain⟨f,rfl⟩:∃ f',f=f'+1:=⟨f - 1,by omega⟩
   rw[Pm N most low f i sets next hlt] at hbp
   obtain⟨RR,hRR⟩:∃ RR,rowP N most (sets.getD i []) low sets []=RR:=⟨_,rfl⟩
   rw[hRR] at hbp
   have hgd:sets.getD i []=sets[i]:=by rw[List.getD_eq_getElem?_getD,List.getElem?_eq_getElem hlt];rfl
   rw[hgd] at hRR
   obtain⟨la,lc,hlf⟩:∃ a c,B.lo=.slice a low.length c:=by obtain⟨a,_,_,c,hv,_⟩:=hlo.1;exact⟨a,c,hv⟩
   have x6:wr.cell? ⟨bp,258,none⟩=some (.slice la low.length lc):=((hx.cell 258).trans (uV _)).trans (congrArg some hlf)
   have hlo1:=hlo.1
   rw[hlf] at hlo1
   obtain⟨lob,loo,_,hlc,adv,aiu,aiv⟩:=ak.dh (f:=fun x:Nat=>Value.int .u8 (x:Nat)) hlo1
   have ams:(i:Int)<(sets.length:Int):=by omega
   have HLF:=ah hlf;have amu:=ah aiu;have aqd:=ah aiv;have HBu:=ah hB;have amv:=ah hlo;have jG:=ah hBw;have HBP:=ah hbp;have HRR:=ah hRR;have HRE:=ah hre;have ER:=ah hro;have zn:=ah hrl;have HFI:=ah hfi
   have hbs:=hB.bs
   clear hlf aiu aiv hlo1 hB hlo hBw hbp hRR hre hro hrl hgd hfi
   obtain⟨nl,hnl⟩:∃ nl,low.length=nl:=⟨_,rfl⟩
   have EU:=ah hnl
   rw[hnl] at x6 hlc hlow
   clear hnl
   go_wp2_with (refine yP rfl 24 _ _ rfl jg uN nl rfl rfl (by omega) (by simp only[maxLen];omega) wr.heap.size (Nat.le_refl _) ?_;intro w4 sU hg4;have hB4:Below wr.heap.size wr w4:=(Below.refl _ _).grown hg4 (Nat.le_refl _) (fun k hk=>by cases hk);have x7:w4.cell? ⟨bp,258,none⟩=some (.slice la nl lc):=(hB4.cell Gm).trans x6)
   clear x7 hg4 x5 x6
   have TR:=HBu.out.off (Nat.le_refl _) sU
   have HO4:=ah sU;have HB4:=ah hB4;have EK:=ah TR
   clear sU hB4 TR
   go_loopw [6,36] (fun v j wq=>∃ (t:Nat) ,j=.int .i64 t∧t≤nl∧amr N most low qB h bp mb B Pn sets[i] sets next RR w wr.heap.size v t wq) (fun _ j _=>nl - (intOf j).toNat)
   case atStart =>
    refine⟨0,rfl,Nat.zero_le _,JE,kv',_,sets,[],HBu.out.kept HB4.out,⟨amv.out.same (fun b _ hlt=>HB4.out.block b hlt) (fun _ h=>h),HIN.out⟩,jG.out.trans (HB4.out.mono (by have:=jG.out.size;omega)),List.prefix_refl _,HRR.out,hsm,HO4.out,rfl,HB4.out.size,fun g hg=>?_⟩
    obtain⟨h1,h2,h3,h4,h5,h6,h7⟩:=EK.out ⟨wr.heap.size,0,none⟩ rfl
    cases hg
    exact⟨fun hi=>absurd (HBu.out.BK _ hi) (Nat.lt_irrefl _),h5,h6,h7⟩
   case round =>
    obtain⟨t,rfl,htn,xK,kv5,sv5,jk,row,bF,⟨TS,acw⟩,CX,hpre,Wp,aix,CV,adC,nK,Yg⟩:=hrel
    have aiy:=ah acw
    clear acw
    obtain⟨ra,rc,hrv⟩:=CV.form
    subst hrv
    have hrq:row.length≤256:=by omega
    by_cases hlt2:t<nl
    ·have htl:t<low.length:=by rw[EU.out];exact hlt2
     have Yh:=TS.1
     rw[HLF.out] at Yh
     obtain rfl:=amu.out t htl
     obtain⟨amw,amx,_,_,_,aiz,aiA⟩:=ak.dh (f:=fun x:Nat=>Value.int .u8 (x:Nat)) Yh
     have aiB:=aiz t htl
     have c0:=aiA t htl wr (Below.refl _ _)
     have hdr:low.drop t=low[t]::low.drop (t+1):=List.drop_eq_getElem_cons htl
     rw[hdr,Pj] at Wp
     have hc6:=HLW.out _ (List.getElem_mem htl)
     generalize low[t]=c at *
     obtain⟨TT,NU,amy,aiC⟩:=bF.rows
     obtain⟨sa5,sc5,aiD⟩:=NU.form
     dsimp only at aiD
     subst aiD
     have hi5:i<jk.length:=Nat.lt_of_lt_of_le hlt hpre.length_le
     have hi6:i<TT.length:=by omega
     have hsi:jk[i]=sets[i]:=(hpre.getElem hlt).symm
     obtain⟨ai,ci,e1,e2,_⟩:=aiC i hi6 hi5
     rw[hsi] at e1 e2
     obtain⟨TU,Wq,_,hrc,aqe,hra,hrx⟩:=ak.dh (f:=fun x:yI=>Value.slice x.1 x.2.1 x.2.2) (NU.slice uG)
     obtain rfl:=hra i hi6
     have Yi:=bF.BJ _ (List.getElem_mem hi5)
     rw[hsi] at Yi
     have amA:sets[i].length≤65536:=by
      obtain⟨S,_,e⟩:=Yi
      rw[e]
      exact Nat.le_trans (Om _ _) bF.small
     have hsp:yj B.st (gZ N sets[i] c):=by rw[HST.out];exact G9 N _
     have aqf:=World.block_lt_of_cell? wr _ c0
     have HF:Hid (∀ u,Below wr.drew.heap.size wr.drew u→jI u qB xK bp mb { B with sv:=.slice (some ⟨TU,Wq,none⟩) TT.length sc5,nv:=Pn } kv5 jk next∧Below h w u∧ak u (.slice ai sets[i].length ci) 1 aO sets[i]∧u.cell? ⟨TU,Wq+i,none⟩=some (.slice ai sets[i].length ci)∧dM u xK B.lo gY low):=ah fun u hl=>by
      have h1:Below wr.heap.size wr u:=(Below.refl wr.heap.size wr).drew.trans hl
      refine⟨bF.kept h1,CX.trans (h1.mono (by have:=CX.size;omega)),e2.kept h1,?_,TS.same (fun b _ hlt=>h1.block b hlt) (fun _ h=>h)⟩
      have:=hrx i hi6 u h1
      rw[e1] at this
      exact this
     have hti:(i:Int)<(TT.length:Int):=by omega
     have hi0:(0:Int)≤(i:Int):=by omega
     have aqg:(t:Int)<(nl:Int):=by omega
     have ht0:(0:Int)≤(t:Int):=by omega
     have HRP:=ah Wp;have amB:=ah hpre;have amC:=ah CV;have amD:=ah adC;have aiF:=ah Yg;have BO:=ah bF;have aqh:=ah CX
     have hinj:=Option.some.inj aiB
     obtain⟨rfl,rfl⟩:lob=amw∧loo=amx:=by
      have h1:=congrArg Addr.block hinj
      have h2:=congrArg Addr.off hinj
      exact⟨h1,h2⟩
     clear Wp hpre CV adC Yg bF CX TS Yh aiz aiA aiB hdr amy aiC NU hsi e1 e2 hra hrx Yi hinj
     go_wp2_with fail
     refine jq (R:=Later) [15,17] (by kernel_rfl) ?_
     refine pl [0,1,2,3,4] ?_
     repeat
      refine oM ?_ rfl (fun w1=>?_) ?_
      rotate_left
      ·go_simp;try with_reducible rfl
      simp only[eA,eB,eC,Act.put,eD,eE,eF]
     refine bU ?_
     refine AY 5 ?_ rfl (fun w1 hl=>?_) ?_
     rotate_left
     ·obtain⟨hX,_,_,hcl,_⟩:=HF.out w1 hl;have y0:w1.cell? ⟨bp,0,none⟩=some (.pointer (some ⟨B.m,0,none⟩)):=(hX.box.cell 0).trans (jW _);have y5:w1.cell? ⟨bp,260,none⟩=some (.slice (some ⟨TU,Wq,none⟩) TT.length sc5):=(hX.box.cell 260).trans (ku _);go_simp;try with_reducible rfl
     simp only[eA,eB,eC,Act.put,eD,eE,eF]
     refine pl [6,7,8] ?_
     repeat
      refine oM ?_ rfl (fun w1=>?_) ?_
      rotate_left
      ·go_simp;try with_reducible rfl
      simp only[eA,eB,eC,Act.put,eD,eE,eF]
     refine bU ?_
     refine AY 9 ?_ rfl (fun w1 hl=>?_) ?_
     rotate_left
     ·obtain⟨hX,_,_,hcl,_⟩:=HF.out w1 hl;have y0:w1.cell? ⟨bp,0,none⟩=some (.pointer (some ⟨B.m,0,none⟩)):=(hX.box.cell 0).trans (jW _);have y5:w1.cell? ⟨bp,260,none⟩=some (.slice (some ⟨TU,Wq,none⟩) TT.length sc5):=(hX.box.cell 260).trans (ku _);go_simp;try with_reducible rfl
     simp only[eA,eB,eC,Act.put,eD,eE,eF]
     refine pl [10,11] ?_
     repeat
      refine oM ?_ rfl (fun w1=>?_) ?_
      rotate_left
      ·go_simp;try with_reducible rfl
      simp only[eA,eB,eC,Act.put,eD,eE,eF]
     refine bU ?_
     refine AY 12 ?_ rfl (fun w1 hl=>?_) ?_
     rotate_left
     ·obtain⟨hX,_,_,hcl,_⟩:=HF.out w1 hl;have y0:w1.cell? ⟨bp,0,none⟩=some (.pointer (some ⟨B.m,0,none⟩)):=(hX.box.cell 0).trans (jW _);have y5:w1.cell? ⟨bp,260,none⟩=some (.slice (some ⟨TU,Wq,none⟩) TT.length sc5):=(hX.box.cell 260).trans (ku _);go_simp;try with_reducible rfl
     simp only[eA,eB,eC,Act.put,eD,eE,eF]
     refine Kv 13 ?_ rfl (fun w1=>?_) ?_
     rotate_left
     ·go_simp;try with_reducible rfl
     simp only[eA,eB,eC,Act.put,eD,eE,eF]
     refine dw (T:=[15,17]) (i:=14) (by kernel_rfl) rfl (fun w1 hl K hK=>?_)
     obtain⟨hX,hBw1,hsl1,_,hlo1⟩:=HF.out w1 hl
     have adD:=amC.out.kept ((Below.refl wr.heap.size wr).drew.trans hl)
     have nK:=Nat.le_trans nK hl.size
     have hstp:=aga B.m lb eb kl ke va N ai sets[i].length ci sets[i] c w1 (HT.out w1 hBw1) (HM.out w1 hBw1) hsl1 amA hc6
     clear hl
     go_simp
     refine hstp.mono ?_
     rintro e w5 ⟨a5,c5,rfl,BM,hb5⟩
     refine hK.out _ _ (fun _=>hb5) ?_
     clear hK K hstp
     have adE:=hX.off (Nat.le_refl _) BM
     have nK:=Nat.le_trans nK hb5.size
     have dA:=hX.kept hb5
     have aiG:=adD.kept hb5
     have aiH:dM w5 xK B.lo gY low:=hlo1.same (fun b _ hlt=>hb5.block b hlt) (fun _ h=>h)
     have JR:=hBw1.trans (hb5.mono (by have:=hBw1.size;omega))
     have acy:∀ b,(xK b∨∃ ad,a5=some ad∧ad.block=b)→h≤b:=by
      rintro b (hb | ⟨ad,rfl,rfl⟩)
      ·exact aiy.out b hb
      ·have h1:=(BM.blk (g:=ad.block) rfl).1;have h2:=hBw1.size;omega
     have adF:=ah acy
     clear acy
     have TR:∀ ad,a5=some ad→∀ g,(Value.slice ra row.length rc).ownBlock=some g→g≠ad.block:=fun ad ha g hg=>by
      subst ha
      have h1:=(BM.blk (g:=ad.block) rfl).1
      have h2:=(adD.blk hg).2
      omega
     clear hX hBw1 hsl1 hlo1 adD hb5
     refine dw (T:=[15,17]) (i:=15) (by kernel_rfl) rfl (fun w1 hl K hK=>?_)
     have tY:=dA.kept hl
     have zk:=BM.kept hl
     have Yj:=aiG.kept hl
     have TV:dM w1 xK B.lo gY low:=aiH.same (fun b _ hlt=>hl.block b hlt) (fun _ h=>h)
     have AL:=JR.trans (hl.mono (by have:=JR.size;omega))
     have aj7:=fun ad ha=>(adE ad ha)
     have Yk:=hl.size
     have nK:=Nat.le_trans nK Yk
     clear hl dA BM aiG aiH JR
     have hnum:=OZ qB xK bp mb { B with sv:=.slice (some ⟨TU,Wq,none⟩) TT.length sc5,nv:=Pn } kv5 jk next (gZ N sets[i] c) a5 (gZ N sets[i] c).length c5 w1 tY (zk.slice dN) hsp (by omega) (fun ad ha=>by
      obtain⟨h1,h2⟩:=adE ad ha
      exact⟨by omega,h2⟩)
     go_simp
     refine hnum.mono ?_
     rintro e w6 ⟨rfl,kv6,sv6,kH,hK6⟩
     refine hK.out _ _ (fun h=>absurd h (by decide)) ?_
     clear hK K hnum
     have aa6:∀ g,(Value.slice ra row.length rc).ownBlock=some g→w6.heap[g]?=w1.heap[g]?:=fun g hg=>by
      obtain⟨n1,n2,n3,n4⟩:=aiF.out g hg
      have hgb:=Yj.blk hg
      have hl1:=tY.lt
      have hl2:=tY.tab.lt
      exact hK6.block g hgb.2 (by omega) (by omega) (by omega) n2 n3
     have aiI:=Yj.same aa6
     have nK:=Nat.le_trans nK hK6.size
     have TW:dM w6 (fun b=>xK b∨∃ ad,a5=some ad∧ad.block=b) B.lo gY low :=
      TV.same (fun b hb hlt=>hK6.block b hlt (fun e=>tY.rG.1 (e▸hb)) (fun e=>tY.rG.2.1 (e▸hb)) (fun e=>tY.rG.2.2 (e▸hb)) (fun e=>tY.JF b e hb) (fun e=>tY.JG b e hb)) (fun b hb=>.inl hb)
     have adG:Below h w w6:=by
      obtain⟨_,r1,_,_⟩:=tY.rows
      refine AL.trans ⟨hK6.os,hK6.tape,hK6.output,hK6.size,fun b hb=>hK6.block b (by have:=AL.size;omega) (by omega) (by show b≠B.tb;omega) (by omega) (fun e=>?_) (fun e=>?_)⟩
      ·have:=(tY.tab.own.blk e).1;omega
      ·have:=(r1.blk e).1;omega
     have aiJ:∀ g,(Value.slice ra row.length rc).ownBlock=some g→g<w6.heap.size∧¬ (xK g∨∃ ad,a5=some ad∧ad.block=g)∧kv6.ownBlock≠some g∧sv6.ownBlock≠some g∧Pn.ownBlock≠some g:=fun g hg=>by
      obtain⟨n1,n2,n3,n4⟩:=aiF.out g hg
      have hgb:=Yj.blk hg
      refine⟨by have:=hK6.size;omega,?_,fun e=>?_,fun e=>?_,n4⟩
      ·rintro(h1 | ⟨ad,h1,h2⟩)
       ·exact n1 h1
       ·exact TR ad h1 g hg h2.symm
      ·rcases hK6.aaB g e with h1 | h1
       ·exact n2 h1
       ·omega
      ·rcases hK6.Td g e with h1 | h1
       ·exact n3 h1
       ·omega
     clear aa6 TR adE aj7 tY zk Yj TV AL hK6 Yk
     generalize hii:(fun b=>xK b∨∃ ad,a5=some ad∧ad.block=b)=CY at *
     replace adF:Hid (∀ b,CY b→h≤b):=ah fun b hb=>adF.out b (by rw[←hii] at hb;exact hb)
     have ae0:∀ g,(Value.slice ra row.length rc).ownBlock=some g→g<w6.heap.size∧¬ CY g∧kv6.ownBlock≠some g∧sv6.ownBlock≠some g∧Pn.ownBlock≠some g:=fun g hg=>by rw[←hii];exact aiJ g hg
     clear aiJ hii
     refine dw (T:=[15,17]) (i:=16) (by kernel_rfl) rfl (fun w1 hl K hK=>?_)
     have lU:=kH.kept hl
     have ae1:=aiI.kept hl
     have ae2:dM w1 CY B.lo gY low:=TW.same (fun b _ hlt=>hl.block b hlt) (fun _ h=>h)
     have Yl:=adG.trans (hl.mono (by have:=adG.size;omega))
     have Yk:=hl.size
     have nK:=Nat.le_trans nK Yk
     clear hl kH aiI TW adG
     go_simp
     refine hK.out _ _ (fun _=>aj _ _) ?_
     clear hK K
     have hsl:=qL uN w1 3 [(((cu jk (gZ N sets[i] c)).1:Nat):Int)] (by simp[maxLen])
     have aiK:=lU.kept (aj w1 (.cells #[.int .i64 ((cu jk (gZ N sets[i] c)).1:Nat)] 3))
     have ae3:=ae1.kept (aj w1 (.cells #[.int .i64 ((cu jk (gZ N sets[i] c)).1:Nat)] 3))
     have ae4:dM (w1.alloc (.cells #[.int .i64 ((cu jk (gZ N sets[i] c)).1:Nat)] 3)) CY B.lo gY low:=ae2.same (fun b _ hlt=>(aj w1 _).block b hlt) (fun _ h=>h)
     have Ym:=Yl.trans ((aj w1 (.cells #[.int .i64 ((cu jk (gZ N sets[i] c)).1:Nat)] 3)).mono (by have:=Yl.size;omega))
     change ak (w1.alloc (.cells #[.int .i64 ((cu jk (gZ N sets[i] c)).1:Nat)] 3)) _ _ _ _ at hsl
     have amE:w1.heap.size+1=(w1.alloc (.cells #[.int .i64 ((cu jk (gZ N sets[i] c)).1:Nat)] 3)).heap.size:=(World.size_alloc _ _).symm
     have nK:=Nat.le_trans nK (Nat.le_trans (Nat.le_succ _) (Nat.le_of_eq amE))
     clear lU ae1 ae2 Yl
     generalize (w1.alloc (.cells #[.int .i64 ((cu jk (gZ N sets[i] c)).1:Nat)] 3))=wq at *
     refine dw (T:=[15,17]) (i:=17) (by kernel_rfl) rfl (fun w1 hl K hK=>?_)
     have rF:=aiK.kept hl
     have Qh:=ae3.kept hl
     have Qi:dM w1 CY B.lo gY low:=ae4.same (fun b _ hlt=>hl.block b hlt) (fun _ h=>h)
     have MQ:=Ym.trans (hl.mono (by have:=Ym.size;omega))
     have hnw:=FB (hsl.kept hl)
     have amF:=hl.size
     have nK:=Nat.le_trans nK amF
     clear hl aiK ae3 ae4 Ym hsl
     refine gu (by rfl) ?_
     have aj8:=rF.bs
     refine pU _ _ 24 rfl jg uN rfl Qh _ 1 (((cu jk (gZ N sets[i] c)).1:Nat):Int) rfl hnw (by simp only[maxLen];omega) (by omega) nK ?_
     intro a' cap' w' hown' hg hfr
     refine hK.out _ _ (fun h=>absurd h (by decide)) ?_
     clear hK K hnw
     simp only[List.getElem_toArray,List.getElem_cons_zero,List.getElem_cons_succ,Act.put,List.setIfInBounds_toArray,List.set_cons_zero,List.set_cons_succ]
     change w1.grownBy w' (Value.slice ra row.length rc).ownBlock at hg
     have hrow0:∀ g,(Value.slice ra row.length rc).ownBlock=some g→g≠bp∧g≠B.tb∧g≠mb∧¬ CY g∧kv6.ownBlock≠some g∧sv6.ownBlock≠some g∧Pn.ownBlock≠some g:=fun g hgg=>by
      obtain⟨n0,n1,n2,n3,n4⟩:=ae0 g hgg
      have hgb:=Qh.blk hgg
      have hl1:=rF.lt
      have hl2:=rF.tab.lt
      exact⟨by omega,by show g≠B.tb;have:B.tb<qB:=hl2.1;omega,by omega,n1,n2,n3,n4⟩
     have aiL:=rF.turn (Value.slice ra row.length rc).ownBlock hg.size (fun b hb hn=>hg.block b hb fun e=>hn e.symm) hrow0
     have ae5:dM w' CY B.lo gY low:=Qi.same (fun b hb hlt=>hg.block b hlt fun e=>(hrow0 b e.symm).2.2.2.1 hb) (fun _ h=>h)
     have Yn:Below h w w':=MQ.trans ⟨hg.os,hg.tape,hg.output,hg.size,fun b hb=>hg.block b (by have:=MQ.size;omega) fun e=>by have:=(Qh.blk e.symm).1;omega⟩
     have ae6:∀ g,(Value.slice a' (row.length+1) cap').ownBlock=some g→¬ CY g∧kv6.ownBlock≠some g∧sv6.ownBlock≠some g∧Pn.ownBlock≠some g:=fun g hgg=>by
      rcases hfr with e | e
      ·rw[e] at hgg
       exact(hrow0 g hgg).2.2.2
      ·rw[e] at hgg
       cases hgg
       obtain⟨_,r1,_,_⟩:=rF.rows
       obtain⟨_,r2,_,_⟩:=rF.nexts
       exact⟨fun hi=>by have:=rF.BK _ hi;omega,fun e=>by have:=(rF.tab.own.blk e).2;omega,fun e=>by have:=(r1.blk e).2;omega,fun e=>by have:=(r2.blk e).2;omega⟩
     have nK:=Nat.le_trans nK hg.size
     clear hrow0 hfr hg rF Qh Qi MQ ae0 aj8
     refine Kv 18 ?_ rfl (fun w1=>?_) ?_
     rotate_left
     ·go_simp;try with_reducible rfl
     simp only[eA,eB,eC,Act.put,eD,eE,eF]
     refine kK (by kernel_rfl) (fun w1 hl=>?_) _
     have TY:=aiL.kept hl
     have ae7:=hown'.kept hl
     have ae8:dM w1 CY B.lo gY low:=ae5.same (fun b _ hlt=>hl.block b hlt) (fun _ h=>h)
     have ae9:=Yn.trans (hl.mono (by have:=Yn.size;omega))
     have nK:=Nat.le_trans nK hl.size
     clear hl aiL ae5 Yn hown'
     obtain⟨rl8,adH,adI,_⟩:=TY.rows
     obtain⟨sa8,sc8,aiM⟩:=adH.form
     dsimp only at aiM
     subst aiM
     rw[adI] at adH
     have z5:w1.cell? ⟨bp,260,none⟩=some (.slice sa8 rl8.length sc8):=(TY.box.cell 260).trans (ku _)
     rw[adI] at z5
     have hbz:=TY.box.lt
     have afa:=amB.out.trans (I7 jk (gZ N sets[i] c))
     have NZ:=HRP.out
     have amG:=ah TY;have aj9:=ah ae7;have akb:=ah ae8;have afb:=ah ae9;have akc:=ah ae6;have akd:=ah afa;have HRB:=ah nK
     clear TY ae7 ae8 ae9 ae6 afa nK adI adH HF hsp
     by_cases hmo:most<(cu jk (gZ N sets[i] c)).2.length
     ·rw[if_pos hmo] at NZ
      have hRN:R=none:=by
       have:=HBP.out
       rw[←NZ] at this
       exact this.symm
      have hRB:JQ N most low qB h bp mb B w (.returned (.bool false)) w1:=⟨afb.out,by rw[HR.out,hRN]⟩
      have amH:=ah hRB
      have hle:decide (((cu jk (gZ N sets[i] c)).2.length:Int)≤(most:Int))=false:=decide_eq_false (by omega)
      have hgt:decide ((most:Int)<((cu jk (gZ N sets[i] c)).2.length:Int))=true:=decide_eq_true (by omega)
      have hlen:decide ((cu jk (gZ N sets[i] c)).2.length≤most)=false:=decide_eq_false (by omega)
      have amI:decide (most<(cu jk (gZ N sets[i] c)).2.length)=true:=decide_eq_true hmo
      clear NZ hRN hRB
      go_wp2
      go_ret
      exact amH.out
     ·rw[if_neg hmo] at NZ
      have hgt:decide ((most:Int)<((cu jk (gZ N sets[i] c)).2.length:Int))=false:=decide_eq_false (by omega)
      have amJ:=ah NZ
      have amK:(cu jk (gZ N sets[i] c)).2.length≤most:=by omega
      have amL:=ah amK
      have amI:decide (most<(cu jk (gZ N sets[i] c)).2.length)=false:=decide_eq_false hmo
      clear NZ
      go_wp2
      exact⟨⟨t+1,by push_cast;rfl,hlt2,CY,kv6,_,(cu jk (gZ N sets[i] c)).2,_,amG.out,⟨akb.out,adF.out⟩,afb.out,akd.out,amJ.out,amL.out,aj9.out,by rw[List.length_append,amD.out];rfl,HRB.out,akc.out⟩,by simp[intOf];omega⟩
    ·obtain rfl:t=nl:=by omega
     have hd:low.drop t=[]:=List.drop_of_length_le (by rw[EU.out];exact Nat.le_refl _)
     rw[hd,rowP] at Wp
     have adJ:=HBP.out
     rw[←Wp] at adJ
     obtain⟨Ua,aiO,aiP,aiQ⟩:=bF.nexts
     obtain⟨na9,nc9,aiR⟩:=aiO.form
     dsimp only at aiR
     subst aiR
     have z6:wr.cell? ⟨bp,261,none⟩=some (.slice na9 Ua.length nc9):=(bF.box.cell 261).trans (uY _)
     have hbz:=bF.box.lt
     have afc:∀ ad,ra=some ad→ad.block<wr.heap.size∧ad.block≠bp∧ad.block≠B.tb∧ad.block≠mb∧kv5.ownBlock≠some ad.block∧sv5.ownBlock≠some ad.block∧(Value.slice na9 Ua.length nc9).ownBlock≠some ad.block:=by
      rintro ad rfl
      obtain⟨n1,n2,n3,n4⟩:=Yg ad.block rfl
      have hgb:=CV.blk (g:=ad.block) rfl
      have hl1:=bF.lt
      have hl2:B.tb<qB∧mb<qB∧B.tb≠mb:=bF.tab.lt
      exact⟨hgb.2,by omega,by omega,by omega,n2,n3,n4⟩
     have amM:Hid (∀ g,(Value.slice ra row.length rc).ownBlock=some g→h≤g):=ah fun g hg=>by have h1:=(CV.blk hg).1;have h2:=jG.out.size;omega
     have lY:=bF.more (Nat.le_refl _) afc
     have TW:dM wr (fun b=>xK b∨∃ ad,ra=some ad∧ad.block=b) B.lo gY low:=TS.same (fun _ _ _=>rfl) (fun b hb=>.inl hb)
     have afd:∀ i (h1:i<Ua.length) (h2:i<next.length),∃ a c,Ua[i]=(a,next[i].length,c)∧dM wr (fun b=>xK b∨∃ ad,ra=some ad∧ad.block=b) (.slice a next[i].length c) encI next[i]:=fun i h1 h2=>by
      obtain⟨a,c,m1,m2⟩:=aiQ i h1 h2
      exact⟨a,c,m1,m2.same (fun _ _ _=>rfl) (fun b hb=>.inl hb)⟩
     have apE:Ua.length+1≤1099511627777:=by have:=Aw.out;omega
     have aqi:=bF.bs
     have HB9:=ah lY;have amN:=ah TW;have amO:=ah afd;have Yo:=ah aiO;have amP:=ah aiP;have amQ:=ah (CV.slice uN);have amR:=ah adJ;have aiS:=ah CX;have amS:=ah aix;have aqj:=ah hpre
     clear bF TS CX hpre Wp aix CV Yg afc adC lY TW aiQ afd aiP adJ hd
     go_wp2_with (at_builtin;go_must (refine eP rfl _ _ 23 rfl GV uG rfl (Yo.out.kept (aj _ _)) ⟨wr.heap.size,0,none⟩ 1 (ra,row.length,rc) rfl (dD wr [.slice ra row.length rc] _) (by simp only[maxLen];omega) (by omega) (by simp only[World.size_alloc];omega) ?_;intro a7 c7 w7 iI dn ug;have hb7:=(HB9.out.box.alloc (.cells #[.slice ra row.length rc] 24)).grown (Yo.out.kept (aj _ _)) dn HB9.out.lt.1;have q1:=(hb7.cell 261).trans (uY _);have f1:=hb7.free 261;have F9:=hb7.lt))
     obtain⟨amT,hk10⟩:=HB9.out.agc amQ.out (fun ad e=>.inr ⟨ad,e,rfl⟩) Yo.out amP.out amO.out iI dn ug
     have Qi:dM (w7.setCell ⟨bp,261,none⟩ (.slice a7 (Ua.length+1) c7)) (fun b=>xK b∨∃ ad,ra=some ad∧ad.block=b) B.lo gY low :=
      amN.out.same (fun b hb hlt=>hk10 b hlt (fun e=>HB9.out.rG.1 (e▸hb)) (fun e=>HB9.out.JH b e hb)) (fun _ h=>h)
     have ake:∀ b,(xK b∨∃ ad,ra=some ad∧ad.block=b)→h≤b:=by
      rintro b (hb | ⟨ad,rfl,rfl⟩)
      ·exact aiy.out b hb
      ·exact amM.out ad.block rfl
     have aqk:=dn.size
     have amU:(wr.alloc (.cells #[.slice ra row.length rc] 24)).heap.size=wr.heap.size+1:=World.size_alloc _ _
     have MQ:Below h w (w7.setCell ⟨bp,261,none⟩ (.slice a7 (Ua.length+1) c7)):=aiS.out.trans ⟨dn.os,dn.tape,dn.output,by rw[World.size_setCell];omega,fun b hb=>hk10 b (by have:=aiS.out.size;omega) (by omega) fun e=>by have:=(Yo.out.blk e).1;omega⟩
     exact⟨⟨i+1,by push_cast;rfl,by omega,f,_,kv5,sv5,_,jk,_,amT,⟨Qi,ake⟩,MQ,amR.out,by have:=HFI.out;omega,amS.out,by rw[List.length_append,Aw.out];rfl⟩,by simp[intOf];omega⟩
  ·rw[MP N most low f i sets next hlt] at hbp
   have ams:decide ((i:Int)<(sets.length:Int))=false:=decide_eq_false (by omega)
   have hle:decide ((sets.length:Int)≤(most:Int))=true:=decide_eq_true (by omega)
   have hRB:JQ N most low qB h bp mb B w (.returned (.bool true)) wr:=by
    refine⟨hBw,?_⟩
    rw[HR.out,←hbp]
    exact⟨rfl,JE,kv',_,Pn,hB,hlo,HIN.out⟩
   have HRB:=ah hRB
   clear hRB hB hlo hbp hro hre hx hBw hrl
   generalize sets.length=q at *
   clear hfi
   go_wp2
   rw[Exit.noGoto_ret]
   go_ret
   exact HRB.out
end Go.Proofs.YtengfapcaaacaaaGreatDoor
