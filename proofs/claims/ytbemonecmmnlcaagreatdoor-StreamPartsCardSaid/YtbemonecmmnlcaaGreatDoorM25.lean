/- The texts of S25, in few letters (mini.py). -/
import Derived.Test.YtbemonecmmnlcaaGreatDoorM24
set_option linter.unusedVariables false
set_option linter.unusedSimpArgs false
set_option maxRecDepth 20000
set_option maxHeartbeats 6400000
namespace Go.Proofs.YtbemonecmmnlcaaGreatDoor
open Go.RowKit
theorem Eh(N:Nf)(l:List Nat):vH N.states (fA N l):=⟨_,CX _ _ _ _ (Gi _ _ _ (Nat.pos_of_ne_zero (by simp))),rfl⟩
theorem PK{sets:List (List Nat)}{l:List Nat}{j:Nat}(h:sets.idxOf? l=some j):bP sets l=(j,sets):=by unfold bP;rw[h]
theorem PL{sets:List (List Nat)}{l:List Nat}(h:sets.idxOf? l=none):bP sets l=(sets.length,sets++[l]):=by unfold bP;rw[h]
theorem FM(sets:List (List Nat))(l:List Nat):sets <+: (bP sets l).2:=by
 cases h:sets.idxOf? l with
 | some j=>rw[PK h];exact List.prefix_refl _
 | none=>rw[PL h];exact List.prefix_append _ _
theorem LU(N:Nf)(most:Nat)(l:List Nat)(c:Nat)(low:List Nat)(sets:List (List Nat))(row:List Int):rowP N most l (c::low) sets row=if most<(bP sets (fZ N l c)).2.length then none else rowP N most l low (bP sets (fZ N l c)).2 (row++[((bP sets (fZ N l c)).1:Int)]):=rfl
theorem LV(N:Nf)(most:Nat)(low:List Nat)(f i:Nat)(sets:List (List Nat))(next:List (List Int))(h:i<sets.length):ji N most low (f+1) i sets next=match rowP N most (sets.getD i []) low sets [] with
  | none=>none
  | some (yY,row)=>ji N most low f (i+1) yY (next++[row]):=by rw[ji,if_pos h];rfl
theorem Jq(N:Nf)(most:Nat)(low:List Nat)(f i:Nat)(sets:List (List Nat))(next:List (List Int))(h:¬ i<sets.length):ji N most low f i sets next=some (sets,next):=by
 cases f with
 | zero=>rfl
 | succ f=>rw[ji,if_neg h]
theorem PN(N:Nf)(most:Nat)(l:List Nat):∀ (low:List Nat) (sets:List (List Nat)) (row:List Int) (r:List (List Nat)×List Int),rowP N most l low sets row=some r→sets <+: r.1∧(sets.length≤most→r.1.length≤most)
 | [],sets,row,r,h=>by
  rw[rowP] at h
  obtain rfl:=Option.some.inj h
  exact⟨List.prefix_refl _,id⟩
 | c::low,sets,row,r,h=>by
  rw[LU] at h
  split at h
  ·cases h
  ·rename_i hm
   obtain⟨h1,h2⟩:=PN N most l low _ _ r h
   exact⟨(FM _ _).trans h1,fun _=>h2 (by omega)⟩
theorem jc.off{α:Type}{w w2:World}{base b0 E:Nat}{inn:Nat→Prop}{bp mb:Nat}{B:iP}{kv:Value}{sets:List (List Nat)}{next:List (List Int)}{enc:α→List Value}{a:Option Addr}{n c:Nat}{xs:List α}(h:jc w base inn bp mb B kv sets next)(hs:w.heap.size≤b0)(ho:Own w2 b0 E 1 enc (.slice a n c) xs) :
  ∀ ad,a=some ad→ad.block<w2.heap.size∧ad.block≠bp∧ad.block≠B.tb∧ad.block≠mb∧kv.ownBlock≠some ad.block∧B.sv.ownBlock≠some ad.block∧B.nv.ownBlock≠some ad.block:=by
 rintro ad rfl
 have hb:=ho.blk (g:=ad.block) rfl
 have h1:=h.box.lt
 have h2:=h.tab.box.lt
 have h3:=h.tab.mp.lt
 obtain⟨_,r1,_,_⟩:=h.rows
 obtain⟨_,r2,_,_⟩:=h.nexts
 exact⟨hb.2,by omega,by omega,by omega,fun e=>by have:=(h.tab.own.blk e).2;omega,fun e=>by have:=(r1.blk e).2;omega,fun e=>by have:=(r2.blk e).2;omega⟩
theorem jc.turn{w w2:World}{base:Nat}{inn:Nat→Prop}{bp mb:Nat}{B:iP}{kv:Value}{sets:List (List Nat)}{next:List (List Int)}(h:jc w base inn bp mb B kv sets next)(g0:Option Nat)(hs:w.heap.size≤w2.heap.size)(hk:∀ b,b<w.heap.size→g0≠some b→w2.heap[b]?=w.heap[b]?)
  (h0:∀ g,g0=some g→g≠bp∧g≠B.tb∧g≠mb∧¬ inn g∧kv.ownBlock≠some g∧B.sv.ownBlock≠some g∧B.nv.ownBlock≠some g):jc w2 base inn bp mb B kv sets next:=by
 have hin:∀ b,inn b→b<w.heap.size→w2.heap[b]?=w.heap[b]?:=fun b hb hlt=>hk b hlt fun e=>(h0 b e).2.2.2.1 hb
 obtain⟨_,r1,_,_⟩:=h.rows
 obtain⟨_,r2,_,_⟩:=h.nexts
 refine⟨(hk bp h.box.lt fun e=>(h0 _ e).1 rfl).trans h.box,⟨(hk _ h.tab.box.lt fun e=>(h0 _ e).2.1 rfl).trans h.tab.box,h.tab.mp.same (hk mb h.tab.mp.lt fun e=>(h0 _ e).2.2.1 rfl),h.tab.own.same fun g hg=>hk g (h.tab.own.blk hg).2 fun e=>(h0 g e).2.2.2.2.1 hg,h.tab.lt⟩,
  h.rows.same hin (fun _ h=>h) fun g hg=>hk g (r1.blk hg).2 fun e=>(h0 g e).2.2.2.2.2.1 hg,h.nexts.same hin (fun _ h=>h) fun g hg=>hk g (r2.blk hg).2 fun e=>(h0 g e).2.2.2.2.2.2 hg,h.yZ,fun b hb=>Nat.lt_of_lt_of_le (h.zf b hb) hs,h.pF,h.GI,h.GK,h.GL,h.sn,h.lt,h.small,Nat.le_trans h.bs hs⟩
theorem jc.adl{w w7:World}{base:Nat}{inn:Nat→Prop}{bp mb:Nat}{B:iP}{kv v':Value}{sets:List (List Nat)}{next:List (List Int)}{ra:Option Addr}{rc:Nat}{row:List Int}(h:jc w base inn bp mb B kv sets next)(hrow:ak w (.slice ra row.length rc) 1 encI row)(FN:∀ ad,ra=some ad→inn ad.block){rl:List Fz}
  (hrn:Own w base 24 1 vG B.nv rl) (hrl:rl.length=next.length) (hre:∀ i (h1:i<rl.length) (h2:i<next.length),∃ a c,rl[i]=(a,next[i].length,c)∧dD w inn (.slice a next[i].length c) encI next[i])
  (iy:Own w7 base 24 1 vG v' (rl++[(ra,row.length,rc)])) (cO:(w.alloc (.cells #[.slice ra row.length rc] 24)).grownBy w7 B.nv.ownBlock) (qK:v'.ownBlock=B.nv.ownBlock∨v'.ownBlock=some (w.alloc (.cells #[.slice ra row.length rc] 24)).heap.size) :
  jc (w7.setCell ⟨bp,261,none⟩ v') base inn bp mb { B with nv:=v' } kv sets (next++[row])∧∀ b,b<w.heap.size→b≠bp→B.nv.ownBlock≠some b→(w7.setCell ⟨bp,261,none⟩ v').heap[b]?=w.heap[b]?:=by
 have hlt:=h.lt
 have htl:=h.tab.lt
 have s8:(w.alloc (.cells #[.slice ra row.length rc] 24)).heap.size=w.heap.size+1:=World.size_alloc _ _
 have sg:=cO.size
 have hk:∀ b,b<w.heap.size→b≠bp→B.nv.ownBlock≠some b→(w7.setCell ⟨bp,261,none⟩ v').heap[b]?=w.heap[b]?:=fun b hb n1 n2=>by
  rw[heap_setCell_other _ _ b _ n1,cO.block b (by omega) (fun e=>n2 e.symm)]
  exact(aj w _).block b hb
 obtain⟨r1l,r1,r1n,r1e⟩:=h.rows
 have hin:∀ b,inn b→b<w.heap.size→(w7.setCell ⟨bp,261,none⟩ v').heap[b]?=w.heap[b]?:=fun b hb hlt'=>hk b hlt' (fun e=>h.pF.1 (e▸hb)) (fun e=>h.GL b e hb)
 have hbx:Box w7 bp (bW B) 226:=(h.box.alloc _).grown (hrn.kept (aj w _)) cO hlt.1
 have hT:∀ g,B.nv.ownBlock=some g→kv.ownBlock≠some g:=fun g hg e=>by
  obtain⟨_,c1,b1⟩:=hrn.block g hg
  obtain⟨_,c2,b2⟩:=h.tab.own.block g e
  exact absurd (b1.jC b2) (by decide)
 refine⟨⟨?_,⟨(hk _ h.tab.box.lt hlt.2.1.symm fun e=>by have:=(hrn.blk e).1;omega).trans h.tab.box,h.tab.mp.same (hk mb h.tab.mp.lt hlt.2.2.symm fun e=>by have:=(hrn.blk e).1;omega),h.tab.own.same fun g hg=>hk g (h.tab.own.blk hg).2 (by have:=(h.tab.own.blk hg).1;omega) fun e=>hT g e hg,htl⟩,
  h.rows.same hin (fun _ h=>h) fun g hg=>hk g (r1.blk hg).2 (by have:=(r1.blk hg).1;omega) fun e=>h.sn g hg e,?_,h.yZ,fun b hb=>by have:=h.zf b hb;rw[World.size_setCell];omega,h.pF,h.GI,h.GK,?_,?_,hlt,h.small,by rw[World.size_setCell];have:=h.bs;omega⟩,hk⟩
 ·have:=hbx.set 261 v'
  rwa[QZ] at this
 ·refine nJ.snoc (rows:=rl) (x:=(ra,row.length,rc)) (iy.other _ _ hlt.1) hrl (fun i p q=>?_) (l:=row) (a:=ra) (c:=rc) rfl ?_
  ·obtain⟨a,c,m1,m2⟩:=hre i p q
   exact⟨a,c,m1,m2.same hin (fun _ h=>h)⟩
  ·exact⟨hrow.Au fun ad e hl=>hin _ (FN ad e) hl,fun ad n' c' e=>FN ad (Value.slice.inj e).1⟩
 ·intro g hg hi
  rcases qK with e | e
  ·exact h.GL g (e▸hg) hi
  ·have h1:v'.ownBlock=some g:=hg
   rw[e] at h1
   cases h1
   have:=h.zf _ hi;omega
 ·intro g hg hn
  have h1:v'.ownBlock=some g:=hn
  rcases qK with e | e
  ·exact h.sn g hg (e▸h1)
  ·rw[e] at h1
   cases h1
   have:=(r1.blk hg).2;omega
def GZ(N:Nf)(most:Nat)(low:List Nat)(base h bp mb:Nat)(B:iP)(w:World)(e:Ending)(w':World):Prop :=
 Below h w w'∧match ji N most low (most+1) 0 [fA N [0]] [] with
 | none=>e=.returned (.bool false)
 | some (sets,next)=>e=.returned (.bool true)∧∃ inn kv sv nv,jc w' base inn bp mb { B with sv:=sv,nv:=nv } kv sets next∧dD w' inn B.lo gX low∧∀ b,inn b→h≤b
def aha(N:Nf)(most:Nat)(low:List Nat)(base h bp mb:Nat)(B:iP)(R:Option (List (List Nat)×List (List Int)))(w:World)(i:Nat)(wr:World):Prop :=
 ∃ (f:Nat) (inn:Nat→Prop) (kv sv nv:Value) (sets:List (List Nat)) (next:List (List Int)),jc wr base inn bp mb { B with sv:=sv,nv:=nv } kv sets next∧(dD wr inn B.lo gX low∧∀ b,inn b→h≤b)∧Below h w wr∧ji N most low f i sets next=R∧f+i=most+1∧sets.length≤most∧next.length=i
def ajB(N:Nf)(most:Nat)(low:List Nat)(base h bp mb:Nat)(B:iP)(nv:Value)(l:List Nat)(sets:List (List Nat))(next:List (List Int))(RR:Option (List (List Nat)×List Int))(w:World)(rb:Nat)(rv:Value)(j:Nat)(wq:World):Prop :=
 ∃ (inn:Nat→Prop) (kv sv:Value) (yY:List (List Nat)) (row:List Int),jc wq base inn bp mb { B with sv:=sv,nv:=nv } kv yY next∧(dD wq inn B.lo gX low∧∀ b,inn b→h≤b)∧Below h w wq∧sets <+: yY∧rowP N most l (low.drop j) yY row=RR∧yY.length≤most ∧
  Own wq rb 3 1 encI rv row∧row.length=j∧rb≤wq.heap.size∧∀ g,rv.ownBlock=some g→¬ inn g∧kv.ownBlock≠some g∧sv.ownBlock≠some g∧nv.ownBlock≠some g
theorem aas(N:Nf)(lb eb:Nat)(kl ke:List (Int×Value))(va:Value)(most:Nat)(low:List Nat)(base h bp mb:Nat)(B:iP)(kv:Value)(inn:Nat→Prop)(w:World)(hT:Tab w)(hM:sU w B.m lb eb kl ke va N)(hB:jc w base inn bp mb B kv [] [])(hlo:dD w inn B.lo gX low)(nZ:∀ b,inn b→h≤b)
  (hst:B.st=N.states) (h0:0<N.states) (hm1:1≤most) (hm2:most≤65536) (hlow:low.length≤256) (hlow2:∀ x∈low,x<256) (hh:h≤bp∧h≤B.tb∧h≤mb∧h≤base) (hMh:∀ u,Below h w u→sU u B.m lb eb kl ke va N) (hTh:∀ u,Below h w u→Tab u) :
  Calls Tryz.prog 197 #[.pointer (some ⟨bp,0,none⟩),.int .i64 most] w (GZ N most low base h bp mb B w):=by
 have hstart:=aan B.m lb eb kl ke va N w hT hM h0
 have hset:=Eh N [0]
 have x0:w.cell? ⟨bp,0,none⟩=some (.pointer (some ⟨B.m,0,none⟩)):=(hB.box.cell 0).trans (jw B)
 have hbl:=hB.box.lt
 have hhw:h≤w.heap.size:=by omega
 obtain⟨R,hR⟩:∃ R,ji N most low (most+1) 0 [fA N [0]] []=R:=⟨_,rfl⟩
 have HS:=ah hstart;have HB:=ah hB;have HLO:=ah hlo;have HR:=ah hR;have HST:=ah hst;have Oq:=ah hset;have HM:=ah hMh;have HT:=ah hTh;have HLW:=ah hlow2;have U5:=ah nZ
 clear nZ
 clear hstart hB hlo hR hst hset hMh hTh hM hT hlow2
 go_enter Tryz.func197,Tryz.ntmps197
 go_wp2
 refine wp_scope_straight ?_
 go_wp2_with (go_at_call 241;go_must (refine HS.out.mono ?_;rintro e w2 ⟨a2,c2,rfl,ho2,hb2⟩))
 have hnum:=Ls base inn bp mb B kv [] [] (fA N [0]) a2 (fA N [0]).length c2 w2 (HB.out.kept hb2) (ho2.slice dF) (by rw[HST.out];exact Oq.out) (by simp) (HB.out.off (Nat.le_refl _) ho2)
 refine hnum.mono ?_
 rintro e w3 ⟨rfl,kv3,sv3,hB3,hK3⟩
 have hbw3:Below h w w3:=by
  obtain⟨_,r1,_,_⟩:=HB.out.rows
  refine(hb2.mono hhw).trans ⟨hK3.os,hK3.tape,hK3.output,hK3.size,fun b hb=>hK3.block b (by have:=hb2.size;omega) (by omega) (by omega) (by omega) (fun e=>?_) (fun e=>?_)⟩
  ·have:=(HB.out.tab.own.blk e).1;omega
  ·have:=(r1.blk e).1;omega
 have hlo3:dD w3 (fun b=>inn b∨∃ ad,a2=some ad∧ad.block=b) B.lo gX low:=by
  have hl2:dD w2 inn B.lo gX low:=HLO.out.same (fun b _ hlt=>hb2.block b hlt) (fun _ h=>h)
  have hB2:=HB.out.kept hb2
  refine hl2.same (fun b hb hlt=>hK3.block b hlt (fun e=>hB2.pF.1 (e▸hb)) (fun e=>hB2.pF.2.1 (e▸hb)) (fun e=>hB2.pF.2.2 (e▸hb)) (fun e=>hB2.GI b e hb) (fun e=>hB2.GK b e hb)) (fun b hb=>.inl hb)
 have U6:∀ b,(inn b∨∃ ad,a2=some ad∧ad.block=b)→h≤b:=by
  rintro b (hb | ⟨ad,rfl,rfl⟩)
  ·exact U5.out b hb
  ·have:=(ho2.blk (g:=ad.block) rfl).1;omega
 have hn1:(bP [] (fA N [0])).2=[fA N [0]]:=rfl
 rw[hn1] at hB3
 generalize hi3:(fun b=>inn b∨∃ ad,a2=some ad∧ad.block=b)=aft at *
 replace U6:∀ b,aft b→h≤b:=fun b hb=>U6 b (by rw[←hi3] at hb;exact hb)
 clear hi3
 have HB3:=ah hB3;have HL3:=ah (And.intro hlo3 U6);clear U6;have HW3:=ah hbw3
 clear hnum hB3 hK3 hbw3 hlo3 hn1 ho2 hb2
 go_wp2
 refine wp_label ?_
 go_wp2
 go_loopw [5] (fun v wr=>∃ i:Nat,v=.int .i64 i∧i≤most∧aha N most low base h bp mb B R w i wr) (fun v _=>most+1 - (intOf v).toNat)
 case atStart=>exact⟨0,rfl,Nat.zero_le _,most+1,aft,kv3,sv3,B.nv,_,_,HB3.out,HL3.out,HW3.out,HR.out,rfl,hm1,rfl⟩
 case round =>
  obtain⟨i,rfl,him,f,GH,kv',sv',LW,sets,next,hB,⟨hlo,hin'⟩,hBw,hbp,hfi,hsm,hnx⟩:=hrel
  have HIN:=ah hin'
  clear hin'
  have HNX:=ah hnx
  clear hnx
  have hx:=hB.box
  obtain⟨ng,hro,hrl,hre⟩:=hB.rows
  obtain⟨sa,sc,hsv⟩:=hro.form
  dsimp only at hsv
  subst hsv
  rw[hrl] at hro
  have x5:wr.cell? ⟨bp,260,none⟩=some (.slice sa ng.length sc):=(hx.cell 260).trans (jB _)
  have DI:=hx.lt
  rw[hrl] at x5
  by_cases hlt:i<sets.length
  ·obtain⟨f,rfl⟩:∃ f',f=f'+1:=⟨f - 1,by omega⟩
   rw[LV N most low f i sets next hlt] at hbp
   obtain⟨RR,hRR⟩:∃ RR,rowP N most (sets.getD i []) low sets []=RR:=⟨_,rfl⟩
   rw[hRR] at hbp
   have hgd:sets.getD i []=sets[i]:=by rw[List.getD_eq_getElem?_getD,List.getElem?_eq_getElem hlt];rfl
   rw[hgd] at hRR
   obtain⟨la,lc,hlf⟩:∃ a c,B.lo=.slice a low.length c:=by obtain⟨a,_,_,c,hv,_⟩:=hlo.1;exact⟨a,c,hv⟩
   have x6:wr.cell? ⟨bp,258,none⟩=some (.slice la low.length lc):=((hx.cell 258).trans (rO _)).trans (congrArg some hlf)
   have hlo1:=hlo.1
   rw[hlf] at hlo1
   obtain⟨lob,loo,_,hlc,aam,afu,afv⟩:=ak.dG (f:=fun x:Nat=>Value.int .u8 (x:Nat)) hlo1
   have ajC:(i:Int)<(sets.length:Int):=by omega
   have HLF:=ah hlf;have ajD:=ah afu;have ano:=ah afv;have HBu:=ah hB;have ajE:=ah hlo;have nI:=ah hBw;have HBP:=ah hbp;have HRR:=ah hRR;have HRE:=ah hre;have IK:=ah hro;have D6:=ah hrl;have HFI:=ah hfi
   have hbs:=hB.bs
   clear hlf afu afv hlo1 hB hlo hBw hbp hRR hre hro hrl hgd hfi
   obtain⟨nl,hnl⟩:∃ nl,low.length=nl:=⟨_,rfl⟩
   have Ed:=ah hnl
   rw[hnl] at x6 hlc hlow
   clear hnl
   go_wp2_with (refine wu rfl 24 _ _ rfl iJ lU nl rfl rfl (by omega) (by simp only[maxLen];omega) wr.heap.size (Nat.le_refl _) ?_;intro w4 qL hg4;have hB4:Below wr.heap.size wr w4:=(Below.refl _ _).grown hg4 (Nat.le_refl _) (fun k hk=>by cases hk);have x7:w4.cell? ⟨bp,258,none⟩=some (.slice la nl lc):=(hB4.cell DI).trans x6)
   clear x7 hg4 x5 x6
   have PO:=HBu.out.off (Nat.le_refl _) qL
   have sO:=ah qL;have HB4:=ah hB4;have EY:=ah PO
   clear qL hB4 PO
   go_loopw [6,36] (fun v j wq=>∃ (t:Nat) ,j=.int .i64 t∧t≤nl∧ajB N most low base h bp mb B LW sets[i] sets next RR w wr.heap.size v t wq) (fun _ j _=>nl - (intOf j).toNat)
   case atStart =>
    refine⟨0,rfl,Nat.zero_le _,GH,kv',_,sets,[],HBu.out.kept HB4.out,⟨ajE.out.same (fun b _ hlt=>HB4.out.block b hlt) (fun _ h=>h),HIN.out⟩,nI.out.trans (HB4.out.mono (by have:=nI.out.size;omega)),List.prefix_refl _,HRR.out,hsm,sO.out,rfl,HB4.out.size,fun g hg=>?_⟩
    obtain⟨h1,h2,h3,h4,h5,h6,h7⟩:=EY.out ⟨wr.heap.size,0,none⟩ rfl
    cases hg
    exact⟨fun hi=>absurd (HBu.out.zf _ hi) (Nat.lt_irrefl _),h5,h6,h7⟩
   case round =>
    obtain⟨t,rfl,htn,uM,kv5,sv5,iL,row,dw,⟨PS,afx⟩,zN,hpre,SK,afy,zL,aat,lG,U7⟩:=hrel
    have afz:=ah afx
    clear afx
    obtain⟨ra,rc,hrv⟩:=zL.form
    subst hrv
    have hrq:row.length≤256:=by omega
    by_cases hlt2:t<nl
    ·have htl:t<low.length:=by rw[Ed.out];exact hlt2
     have U8:=PS.1
     rw[HLF.out] at U8
     obtain rfl:=ajD.out t htl
     obtain⟨ajF,ajG,_,_,_,afA,afB⟩:=ak.dG (f:=fun x:Nat=>Value.int .u8 (x:Nat)) U8
     have afC:=afA t htl
     have c0:=afB t htl wr (Below.refl _ _)
     have hdr:low.drop t=low[t]::low.drop (t+1):=List.drop_eq_getElem_cons htl
     rw[hdr,LU] at SK
     have hc6:=HLW.out _ (List.getElem_mem htl)
     generalize low[t]=c at *
     obtain⟨PU,J8,ajH,afD⟩:=dw.rows
     obtain⟨sa5,Yf,afE⟩:=J8.form
     dsimp only at afE
     subst afE
     have hi5:i<iL.length:=Nat.lt_of_lt_of_le hlt hpre.length_le
     have hi6:i<PU.length:=by omega
     have hsi:iL[i]=sets[i]:=(hpre.getElem hlt).symm
     obtain⟨ai,ci,e1,e2,_⟩:=afD i hi6 hi5
     rw[hsi] at e1 e2
     obtain⟨PV,SL,_,hrc,anp,hra,hrx⟩:=ak.dG (f:=fun x:Fz=>Value.slice x.1 x.2.1 x.2.2) (J8.slice yg)
     obtain rfl:=hra i hi6
     have U9:=dw.yZ _ (List.getElem_mem hi5)
     rw[hsi] at U9
     have ajI:sets[i].length≤65536:=by
      obtain⟨S,_,e⟩:=U9
      rw[e]
      exact Nat.le_trans (KI _ _) dw.small
     have hsp:vH B.st (fZ N sets[i] c):=by rw[HST.out];exact Eh N _
     have anq:=World.block_lt_of_cell? wr _ c0
     have HF:Hid (∀ u,Below wr.drew.heap.size wr.drew u→jc u base uM bp mb { B with sv:=.slice (some ⟨PV,SL,none⟩) PU.length Yf,nv:=LW } kv5 iL next∧Below h w u∧ak u (.slice ai sets[i].length ci) 1 aI sets[i]∧u.cell? ⟨PV,SL+i,none⟩=some (.slice ai sets[i].length ci)∧dD u uM B.lo gX low):=ah fun u hl=>by
      have h1:Below wr.heap.size wr u:=(Below.refl wr.heap.size wr).drew.trans hl
      refine⟨dw.kept h1,zN.trans (h1.mono (by have:=zN.size;omega)),e2.kept h1,?_,PS.same (fun b _ hlt=>h1.block b hlt) (fun _ h=>h)⟩
      have:=hrx i hi6 u h1
      rw[e1] at this
      exact this
     have hti:(i:Int)<(PU.length:Int):=by omega
     have hi0:(0:Int)≤(i:Int):=by omega
     have anr:(t:Int)<(nl:Int):=by omega
     have ht0:(0:Int)≤(t:Int):=by omega
     have HRP:=ah SK;have ajJ:=ah hpre;have ajK:=ah zL;have ajL:=ah aat;have afG:=ah U7;have qR:=ah dw;have ant:=ah zN
     have hinj:=Option.some.inj afC
     obtain⟨rfl,rfl⟩:lob=ajF∧loo=ajG:=by
      have h1:=congrArg Addr.block hinj
      have h2:=congrArg Addr.off hinj
      exact⟨h1,h2⟩
     clear SK hpre zL aat U7 dw zN PS U8 afA afB afC hdr ajH afD J8 hsi e1 e2 hra hrx U9 hinj
     go_wp2_with fail
     refine iQ (R:=Later) [15,17] (by kernel_rfl) ?_
     refine pl [0,1,2,3,4] ?_
     repeat
      refine oM ?_ rfl (fun w1=>?_) ?_
      rotate_left
      ·go_simp;try with_reducible rfl
      simp only[eA,eB,eC,Act.put,eD,eE,eF]
     refine eX ?_
     refine Ce 5 ?_ rfl (fun w1 hl=>?_) ?_
     rotate_left
     ·obtain⟨hX,_,_,hcl,_⟩:=HF.out w1 hl;have y0:w1.cell? ⟨bp,0,none⟩=some (.pointer (some ⟨B.m,0,none⟩)):=(hX.box.cell 0).trans (jw _);have y5:w1.cell? ⟨bp,260,none⟩=some (.slice (some ⟨PV,SL,none⟩) PU.length Yf):=(hX.box.cell 260).trans (jB _);go_simp;try with_reducible rfl
     simp only[eA,eB,eC,Act.put,eD,eE,eF]
     refine pl [6,7,8] ?_
     repeat
      refine oM ?_ rfl (fun w1=>?_) ?_
      rotate_left
      ·go_simp;try with_reducible rfl
      simp only[eA,eB,eC,Act.put,eD,eE,eF]
     refine eX ?_
     refine Ce 9 ?_ rfl (fun w1 hl=>?_) ?_
     rotate_left
     ·obtain⟨hX,_,_,hcl,_⟩:=HF.out w1 hl;have y0:w1.cell? ⟨bp,0,none⟩=some (.pointer (some ⟨B.m,0,none⟩)):=(hX.box.cell 0).trans (jw _);have y5:w1.cell? ⟨bp,260,none⟩=some (.slice (some ⟨PV,SL,none⟩) PU.length Yf):=(hX.box.cell 260).trans (jB _);go_simp;try with_reducible rfl
     simp only[eA,eB,eC,Act.put,eD,eE,eF]
     refine pl [10,11] ?_
     repeat
      refine oM ?_ rfl (fun w1=>?_) ?_
      rotate_left
      ·go_simp;try with_reducible rfl
      simp only[eA,eB,eC,Act.put,eD,eE,eF]
     refine eX ?_
     refine Ce 12 ?_ rfl (fun w1 hl=>?_) ?_
     rotate_left
     ·obtain⟨hX,_,_,hcl,_⟩:=HF.out w1 hl;have y0:w1.cell? ⟨bp,0,none⟩=some (.pointer (some ⟨B.m,0,none⟩)):=(hX.box.cell 0).trans (jw _);have y5:w1.cell? ⟨bp,260,none⟩=some (.slice (some ⟨PV,SL,none⟩) PU.length Yf):=(hX.box.cell 260).trans (jB _);go_simp;try with_reducible rfl
     simp only[eA,eB,eC,Act.put,eD,eE,eF]
     refine Nr 13 ?_ rfl (fun w1=>?_) ?_
     rotate_left
     ·go_simp;try with_reducible rfl
     simp only[eA,eB,eC,Act.put,eD,eE,eF]
     refine dP (T:=[15,17]) (i:=14) (by kernel_rfl) rfl (fun w1 hl K hK=>?_)
     obtain⟨hX,hBw1,hsl1,_,hlo1⟩:=HF.out w1 hl
     have aau:=ajK.out.kept ((Below.refl wr.heap.size wr).drew.trans hl)
     have lG:=Nat.le_trans lG hl.size
     have hstp:=adi B.m lb eb kl ke va N ai sets[i].length ci sets[i] c w1 (HT.out w1 hBw1) (HM.out w1 hBw1) hsl1 ajI hc6
     clear hl
     go_simp
     refine hstp.mono ?_
     rintro e w5 ⟨a5,c5,rfl,zi,hb5⟩
     refine hK.out _ _ (fun _=>hb5) ?_
     clear hK K hstp
     have aav:=hX.off (Nat.le_refl _) zi
     have lG:=Nat.le_trans lG hb5.size
     have Ai:=hX.kept hb5
     have afH:=aau.kept hb5
     have afI:dD w5 uM B.lo gX low:=hlo1.same (fun b _ hlt=>hb5.block b hlt) (fun _ h=>h)
     have G5:=hBw1.trans (hb5.mono (by have:=hBw1.size;omega))
     have afJ:∀ b,(uM b∨∃ ad,a5=some ad∧ad.block=b)→h≤b:=by
      rintro b (hb | ⟨ad,rfl,rfl⟩)
      ·exact afz.out b hb
      ·have h1:=(zi.blk (g:=ad.block) rfl).1;have h2:=hBw1.size;omega
     have aaw:=ah afJ
     clear afJ
     have PO:∀ ad,a5=some ad→∀ g,(Value.slice ra row.length rc).ownBlock=some g→g≠ad.block:=fun ad ha g hg=>by
      subst ha
      have h1:=(zi.blk (g:=ad.block) rfl).1
      have h2:=(aau.blk hg).2
      omega
     clear hX hBw1 hsl1 hlo1 aau hb5
     refine dP (T:=[15,17]) (i:=15) (by kernel_rfl) rfl (fun w1 hl K hK=>?_)
     have rV:=Ai.kept hl
     have wI:=zi.kept hl
     have Va:=afH.kept hl
     have PW:dD w1 uM B.lo gX low:=afI.same (fun b _ hlt=>hl.block b hlt) (fun _ h=>h)
     have yu:=G5.trans (hl.mono (by have:=G5.size;omega))
     have ahb:=fun ad ha=>(aav ad ha)
     have Vb:=hl.size
     have lG:=Nat.le_trans lG Vb
     clear hl Ai zi afH afI G5
     have hnum:=Ls base uM bp mb { B with sv:=.slice (some ⟨PV,SL,none⟩) PU.length Yf,nv:=LW } kv5 iL next (fZ N sets[i] c) a5 (fZ N sets[i] c).length c5 w1 rV (wI.slice dF) hsp (by omega) (fun ad ha=>by
      obtain⟨h1,h2⟩:=aav ad ha
      exact⟨by omega,h2⟩)
     go_simp
     refine hnum.mono ?_
     rintro e w6 ⟨rfl,Yg,sv6,lH,hK6⟩
     refine hK.out _ _ (fun h=>absurd h (by decide)) ?_
     clear hK K hnum
     have Yh:∀ g,(Value.slice ra row.length rc).ownBlock=some g→w6.heap[g]?=w1.heap[g]?:=fun g hg=>by
      obtain⟨n1,n2,n3,n4⟩:=afG.out g hg
      have hgb:=Va.blk hg
      have hl1:=rV.lt
      have hl2:=rV.tab.lt
      exact hK6.block g hgb.2 (by omega) (by omega) (by omega) n2 n3
     have afK:=Va.same Yh
     have lG:=Nat.le_trans lG hK6.size
     have PX:dD w6 (fun b=>uM b∨∃ ad,a5=some ad∧ad.block=b) B.lo gX low :=
      PW.same (fun b hb hlt=>hK6.block b hlt (fun e=>rV.pF.1 (e▸hb)) (fun e=>rV.pF.2.1 (e▸hb)) (fun e=>rV.pF.2.2 (e▸hb)) (fun e=>rV.GI b e hb) (fun e=>rV.GK b e hb)) (fun b hb=>.inl hb)
     have aax:Below h w w6:=by
      obtain⟨_,r1,_,_⟩:=rV.rows
      refine yu.trans ⟨hK6.os,hK6.tape,hK6.output,hK6.size,fun b hb=>hK6.block b (by have:=yu.size;omega) (by omega) (by show b≠B.tb;omega) (by omega) (fun e=>?_) (fun e=>?_)⟩
      ·have:=(rV.tab.own.blk e).1;omega
      ·have:=(r1.blk e).1;omega
     have afL:∀ g,(Value.slice ra row.length rc).ownBlock=some g→g<w6.heap.size∧¬ (uM g∨∃ ad,a5=some ad∧ad.block=g)∧Yg.ownBlock≠some g∧sv6.ownBlock≠some g∧LW.ownBlock≠some g:=fun g hg=>by
      obtain⟨n1,n2,n3,n4⟩:=afG.out g hg
      have hgb:=Va.blk hg
      refine⟨by have:=hK6.size;omega,?_,fun e=>?_,fun e=>?_,n4⟩
      ·rintro(h1 | ⟨ad,h1,h2⟩)
       ·exact n1 h1
       ·exact PO ad h1 g hg h2.symm
      ·rcases hK6.XK g e with h1 | h1
       ·exact n2 h1
       ·omega
      ·rcases hK6.O5 g e with h1 | h1
       ·exact n3 h1
       ·omega
     clear Yh PO aav ahb rV wI Va PW yu hK6 Vb
     generalize hii:(fun b=>uM b∨∃ ad,a5=some ad∧ad.block=b)=zO at *
     replace aaw:Hid (∀ b,zO b→h≤b):=ah fun b hb=>aaw.out b (by rw[←hii] at hb;exact hb)
     have ab7:∀ g,(Value.slice ra row.length rc).ownBlock=some g→g<w6.heap.size∧¬ zO g∧Yg.ownBlock≠some g∧sv6.ownBlock≠some g∧LW.ownBlock≠some g:=fun g hg=>by rw[←hii];exact afL g hg
     clear afL hii
     refine dP (T:=[15,17]) (i:=16) (by kernel_rfl) rfl (fun w1 hl K hK=>?_)
     have sK:=lH.kept hl
     have ab8:=afK.kept hl
     have ab9:dD w1 zO B.lo gX low:=PX.same (fun b _ hlt=>hl.block b hlt) (fun _ h=>h)
     have Vd:=aax.trans (hl.mono (by have:=aax.size;omega))
     have Vb:=hl.size
     have lG:=Nat.le_trans lG Vb
     clear hl lH afK PX aax
     go_simp
     refine hK.out _ _ (fun _=>aj _ _) ?_
     clear hK K
     have hsl:=ny lU w1 3 [(((bP iL (fZ N sets[i] c)).1:Nat):Int)] (by simp[maxLen])
     have afM:=sK.kept (aj w1 (.cells #[.int .i64 ((bP iL (fZ N sets[i] c)).1:Nat)] 3))
     have acd:=ab8.kept (aj w1 (.cells #[.int .i64 ((bP iL (fZ N sets[i] c)).1:Nat)] 3))
     have ace:dD (w1.alloc (.cells #[.int .i64 ((bP iL (fZ N sets[i] c)).1:Nat)] 3)) zO B.lo gX low:=ab9.same (fun b _ hlt=>(aj w1 _).block b hlt) (fun _ h=>h)
     have Ve:=Vd.trans ((aj w1 (.cells #[.int .i64 ((bP iL (fZ N sets[i] c)).1:Nat)] 3)).mono (by have:=Vd.size;omega))
     change ak (w1.alloc (.cells #[.int .i64 ((bP iL (fZ N sets[i] c)).1:Nat)] 3)) _ _ _ _ at hsl
     have ajM:w1.heap.size+1=(w1.alloc (.cells #[.int .i64 ((bP iL (fZ N sets[i] c)).1:Nat)] 3)).heap.size:=(World.size_alloc _ _).symm
     have lG:=Nat.le_trans lG (Nat.le_trans (Nat.le_succ _) (Nat.le_of_eq ajM))
     clear sK ab8 ab9 Vd
     generalize (w1.alloc (.cells #[.int .i64 ((bP iL (fZ N sets[i] c)).1:Nat)] 3))=wq at *
     refine dP (T:=[15,17]) (i:=17) (by kernel_rfl) rfl (fun w1 hl K hK=>?_)
     have pz:=afM.kept hl
     have Nb:=acd.kept hl
     have Nc:dD w1 zO B.lo gX low:=ace.same (fun b _ hlt=>hl.block b hlt) (fun _ h=>h)
     have Jr:=Ve.trans (hl.mono (by have:=Ve.size;omega))
     have hnw:=zY (hsl.kept hl)
     have ajN:=hl.size
     have lG:=Nat.le_trans lG ajN
     clear hl afM acd ace Ve hsl
     refine eP (by rfl) ?_
     have ahc:=pz.bs
     refine lF _ _ 24 rfl iJ lU rfl Nb _ 1 (((bP iL (fZ N sets[i] c)).1:Nat):Int) rfl hnw (by simp only[maxLen];omega) (by omega) lG ?_
     intro a' cap' w' hown' hg hfr
     refine hK.out _ _ (fun h=>absurd h (by decide)) ?_
     clear hK K hnw
     simp only[List.getElem_toArray,List.getElem_cons_zero,List.getElem_cons_succ,Act.put,List.setIfInBounds_toArray,List.set_cons_zero,List.set_cons_succ]
     change w1.grownBy w' (Value.slice ra row.length rc).ownBlock at hg
     have hrow0:∀ g,(Value.slice ra row.length rc).ownBlock=some g→g≠bp∧g≠B.tb∧g≠mb∧¬ zO g∧Yg.ownBlock≠some g∧sv6.ownBlock≠some g∧LW.ownBlock≠some g:=fun g hgg=>by
      obtain⟨n0,n1,n2,n3,n4⟩:=ab7 g hgg
      have hgb:=Nb.blk hgg
      have hl1:=pz.lt
      have hl2:=pz.tab.lt
      exact⟨by omega,by show g≠B.tb;have:B.tb<base:=hl2.1;omega,by omega,n1,n2,n3,n4⟩
     have afN:=pz.turn (Value.slice ra row.length rc).ownBlock hg.size (fun b hb hn=>hg.block b hb fun e=>hn e.symm) hrow0
     have acf:dD w' zO B.lo gX low:=Nc.same (fun b hb hlt=>hg.block b hlt fun e=>(hrow0 b e.symm).2.2.2.1 hb) (fun _ h=>h)
     have Vf:Below h w w':=Jr.trans ⟨hg.os,hg.tape,hg.output,hg.size,fun b hb=>hg.block b (by have:=Jr.size;omega) fun e=>by have:=(Nb.blk e.symm).1;omega⟩
     have acg:∀ g,(Value.slice a' (row.length+1) cap').ownBlock=some g→¬ zO g∧Yg.ownBlock≠some g∧sv6.ownBlock≠some g∧LW.ownBlock≠some g:=fun g hgg=>by
      rcases hfr with e | e
      ·rw[e] at hgg
       exact(hrow0 g hgg).2.2.2
      ·rw[e] at hgg
       cases hgg
       obtain⟨_,r1,_,_⟩:=pz.rows
       obtain⟨_,r2,_,_⟩:=pz.nexts
       exact⟨fun hi=>by have:=pz.zf _ hi;omega,fun e=>by have:=(pz.tab.own.blk e).2;omega,fun e=>by have:=(r1.blk e).2;omega,fun e=>by have:=(r2.blk e).2;omega⟩
     have lG:=Nat.le_trans lG hg.size
     clear hrow0 hfr hg pz Nb Nc Jr ab7 ahc
     refine Nr 18 ?_ rfl (fun w1=>?_) ?_
     rotate_left
     ·go_simp;try with_reducible rfl
     simp only[eA,eB,eC,Act.put,eD,eE,eF]
     refine lC (by kernel_rfl) (fun w1 hl=>?_) _
     have PY:=afN.kept hl
     have ach:=hown'.kept hl
     have aci:dD w1 zO B.lo gX low:=acf.same (fun b _ hlt=>hl.block b hlt) (fun _ h=>h)
     have acj:=Vf.trans (hl.mono (by have:=Vf.size;omega))
     have lG:=Nat.le_trans lG hl.size
     clear hl afN acf Vf hown'
     obtain⟨rl8,aay,aaz,_⟩:=PY.rows
     obtain⟨sa8,sc8,afO⟩:=aay.form
     dsimp only at afO
     subst afO
     rw[aaz] at aay
     have z5:w1.cell? ⟨bp,260,none⟩=some (.slice sa8 rl8.length sc8):=(PY.box.cell 260).trans (jB _)
     rw[aaz] at z5
     have hbz:=PY.box.lt
     have acn:=ajJ.out.trans (FM iL (fZ N sets[i] c))
     have Kr:=HRP.out
     have ajO:=ah PY;have ahd:=ah ach;have ahe:=ah aci;have aco:=ah acj;have ahf:=ah acg;have ahg:=ah acn;have HRB:=ah lG
     clear PY ach aci acj acg acn lG aaz aay HF hsp
     by_cases hmo:most<(bP iL (fZ N sets[i] c)).2.length
     ·rw[if_pos hmo] at Kr
      have hRN:R=none:=by
       have:=HBP.out
       rw[←Kr] at this
       exact this.symm
      have Yi:GZ N most low base h bp mb B w (.returned (.bool false)) w1:=⟨aco.out,by rw[HR.out,hRN]⟩
      have ajP:=ah Yi
      have hle:decide (((bP iL (fZ N sets[i] c)).2.length:Int)≤(most:Int))=false:=decide_eq_false (by omega)
      have hgt:decide ((most:Int)<((bP iL (fZ N sets[i] c)).2.length:Int))=true:=decide_eq_true (by omega)
      have hlen:decide ((bP iL (fZ N sets[i] c)).2.length≤most)=false:=decide_eq_false (by omega)
      have ajQ:decide (most<(bP iL (fZ N sets[i] c)).2.length)=true:=decide_eq_true hmo
      clear Kr hRN Yi
      go_wp2
      go_ret
      exact ajP.out
     ·rw[if_neg hmo] at Kr
      have hgt:decide ((most:Int)<((bP iL (fZ N sets[i] c)).2.length:Int))=false:=decide_eq_false (by omega)
      have ajR:=ah Kr
      have ajS:(bP iL (fZ N sets[i] c)).2.length≤most:=by omega
      have ajT:=ah ajS
      have ajQ:decide (most<(bP iL (fZ N sets[i] c)).2.length)=false:=decide_eq_false hmo
      clear Kr
      go_wp2
      exact⟨⟨t+1,by push_cast;rfl,hlt2,zO,Yg,_,(bP iL (fZ N sets[i] c)).2,_,ajO.out,⟨ahe.out,aaw.out⟩,aco.out,ahg.out,ajR.out,ajT.out,ahd.out,by rw[List.length_append,ajL.out];rfl,HRB.out,ahf.out⟩,by simp[intOf];omega⟩
    ·obtain rfl:t=nl:=by omega
     have hd:low.drop t=[]:=List.drop_of_length_le (by rw[Ed.out];exact Nat.le_refl _)
     rw[hd,rowP] at SK
     have aaA:=HBP.out
     rw[←SK] at aaA
     obtain⟨PZ,afQ,afR,afS⟩:=dw.nexts
     obtain⟨na9,nc9,afT⟩:=afQ.form
     dsimp only at afT
     subst afT
     have z6:wr.cell? ⟨bp,261,none⟩=some (.slice na9 PZ.length nc9):=(dw.box.cell 261).trans (rQ _)
     have hbz:=dw.box.lt
     have acp:∀ ad,ra=some ad→ad.block<wr.heap.size∧ad.block≠bp∧ad.block≠B.tb∧ad.block≠mb∧kv5.ownBlock≠some ad.block∧sv5.ownBlock≠some ad.block∧(Value.slice na9 PZ.length nc9).ownBlock≠some ad.block:=by
      rintro ad rfl
      obtain⟨n1,n2,n3,n4⟩:=U7 ad.block rfl
      have hgb:=zL.blk (g:=ad.block) rfl
      have hl1:=dw.lt
      have hl2:B.tb<base∧mb<base∧B.tb≠mb:=dw.tab.lt
      exact⟨hgb.2,by omega,by omega,by omega,n2,n3,n4⟩
     have ajU:Hid (∀ g,(Value.slice ra row.length rc).ownBlock=some g→h≤g):=ah fun g hg=>by have h1:=(zL.blk hg).1;have h2:=nI.out.size;omega
     have mQ:=dw.more (Nat.le_refl _) acp
     have PX:dD wr (fun b=>uM b∨∃ ad,ra=some ad∧ad.block=b) B.lo gX low:=PS.same (fun _ _ _=>rfl) (fun b hb=>.inl hb)
     have acr:∀ i (h1:i<PZ.length) (h2:i<next.length),∃ a c,PZ[i]=(a,next[i].length,c)∧dD wr (fun b=>uM b∨∃ ad,ra=some ad∧ad.block=b) (.slice a next[i].length c) encI next[i]:=fun i h1 h2=>by
      obtain⟨a,c,m1,m2⟩:=afS i h1 h2
      exact⟨a,c,m1,m2.same (fun _ _ _=>rfl) (fun b hb=>.inl hb)⟩
     have amR:PZ.length+1≤1099511627777:=by have:=HNX.out;omega
     have anu:=dw.bs
     have Yj:=ah mQ;have ajV:=ah PX;have ajW:=ah acr;have Vg:=ah afQ;have ajX:=ah afR;have ajY:=ah (zL.slice lU);have ajZ:=ah aaA;have afU:=ah zN;have aj0:=ah afy;have anv:=ah hpre
     clear dw PS zN hpre SK afy zL U7 acp aat mQ PX afS acr afR aaA hd
     go_wp2_with (at_builtin;go_must (refine dS rfl _ _ 23 rfl D5 yg rfl (Vg.out.kept (aj _ _)) ⟨wr.heap.size,0,none⟩ 1 (ra,row.length,rc) rfl (cZ wr [.slice ra row.length rc] _) (by simp only[maxLen];omega) (by omega) (by simp only[World.size_alloc];omega) ?_;intro a7 c7 w7 iy cO qK;have hb7:=(Yj.out.box.alloc (.cells #[.slice ra row.length rc] 24)).grown (Vg.out.kept (aj _ _)) cO Yj.out.lt.1;have q1:=(hb7.cell 261).trans (rQ _);have f1:=hb7.free 261;have Dv:=hb7.lt))
     obtain⟨Vh,hk10⟩:=Yj.out.adl ajY.out (fun ad e=>.inr ⟨ad,e,rfl⟩) Vg.out ajX.out ajW.out iy cO qK
     have Nc:dD (w7.setCell ⟨bp,261,none⟩ (.slice a7 (PZ.length+1) c7)) (fun b=>uM b∨∃ ad,ra=some ad∧ad.block=b) B.lo gX low :=
      ajV.out.same (fun b hb hlt=>hk10 b hlt (fun e=>Yj.out.pF.1 (e▸hb)) (fun e=>Yj.out.GL b e hb)) (fun _ h=>h)
     have ahh:∀ b,(uM b∨∃ ad,ra=some ad∧ad.block=b)→h≤b:=by
      rintro b (hb | ⟨ad,rfl,rfl⟩)
      ·exact afz.out b hb
      ·exact ajU.out ad.block rfl
     have anw:=cO.size
     have aj1:(wr.alloc (.cells #[.slice ra row.length rc] 24)).heap.size=wr.heap.size+1:=World.size_alloc _ _
     have Jr:Below h w (w7.setCell ⟨bp,261,none⟩ (.slice a7 (PZ.length+1) c7)):=afU.out.trans ⟨cO.os,cO.tape,cO.output,by rw[World.size_setCell];omega,fun b hb=>hk10 b (by have:=afU.out.size;omega) (by omega) fun e=>by have:=(Vg.out.blk e).1;omega⟩
     exact⟨⟨i+1,by push_cast;rfl,by omega,f,_,kv5,sv5,_,iL,_,Vh,⟨Nc,ahh⟩,Jr,ajZ.out,by have:=HFI.out;omega,aj0.out,by rw[List.length_append,HNX.out];rfl⟩,by simp[intOf];omega⟩
  ·rw[Jq N most low f i sets next hlt] at hbp
   have ajC:decide ((i:Int)<(sets.length:Int))=false:=decide_eq_false (by omega)
   have hle:decide ((sets.length:Int)≤(most:Int))=true:=decide_eq_true (by omega)
   have Yi:GZ N most low base h bp mb B w (.returned (.bool true)) wr:=by
    refine⟨hBw,?_⟩
    rw[HR.out,←hbp]
    exact⟨rfl,GH,kv',_,LW,hB,hlo,HIN.out⟩
   have HRB:=ah Yi
   clear Yi hB hlo hbp hro hre hx hBw hrl
   generalize sets.length=q at *
   clear hfi
   go_wp2
   rw[Exit.noGoto_ret]
   go_ret
   exact HRB.out
end Go.Proofs.YtbemonecmmnlcaaGreatDoor
