/- The texts of B31, in few letters (mini.py). -/
import Derived.Test.YtaoinbjjolikhaaGreatDoorM30
set_option linter.unusedVariables false
set_option linter.unusedSimpArgs false
set_option maxRecDepth 20000
set_option maxHeartbeats 6400000
namespace Go.Proofs.YtaoinbjjolikhaaGreatDoor
open Go.RowKit
theorem Ho(N:Nf)(l:List Nat):yA N.states (fU N l):=⟨_,FI _ _ _ _ (JE _ _ _ (Nat.pos_of_ne_zero (by simp))),rfl⟩
theorem Un{sets:List (List Nat)}{l:List Nat}{j:Nat}(h:sets.idxOf? l=some j):cO sets l=(j,sets):=by unfold cO;rw[h]
theorem Uo{sets:List (List Nat)}{l:List Nat}(h:sets.idxOf? l=none):cO sets l=(sets.length,sets++[l]):=by unfold cO;rw[h]
theorem Jo(sets:List (List Nat))(l:List Nat):sets <+: (cO sets l).2:=by
 cases h:sets.idxOf? l with
 | some j=>rw[Un h];exact List.prefix_refl _
 | none=>rw[Uo h];exact List.prefix_append _ _
theorem Qe(N:Nf)(most:Nat)(l:List Nat)(c:Nat)(low:List Nat)(sets:List (List Nat))(row:List Int):rowP N most l (c::low) sets row=if most<(cO sets (iC N l c)).2.length then none else rowP N most l low (cO sets (iC N l c)).2 (row++[((cO sets (iC N l c)).1:Int)]):=rfl
theorem Qg(N:Nf)(most:Nat)(low:List Nat)(f i:Nat)(sets:List (List Nat))(next:List (List Int))(h:i<sets.length):jU N most low (f+1) i sets next=match rowP N most (sets.getD i []) low sets [] with
  | none=>none
  | some (BQ,row)=>jU N most low f (i+1) BQ (next++[row]):=by rw[jU,if_pos h];rfl
theorem Nw(N:Nf)(most:Nat)(low:List Nat)(f i:Nat)(sets:List (List Nat))(next:List (List Int))(h:¬ i<sets.length):jU N most low f i sets next=some (sets,next):=by
 cases f with
 | zero=>rfl
 | succ f=>rw[jU,if_neg h]
theorem Ur(N:Nf)(most:Nat)(l:List Nat):∀ (low:List Nat) (sets:List (List Nat)) (row:List Int) (r:List (List Nat)×List Int),rowP N most l low sets row=some r→sets <+: r.1∧(sets.length≤most→r.1.length≤most)
 | [],sets,row,r,h=>by
  rw[rowP] at h
  obtain rfl:=Option.some.inj h
  exact⟨List.prefix_refl _,id⟩
 | c::low,sets,row,r,h=>by
  rw[Qe] at h
  split at h
  ·cases h
  ·rename_i hm
   obtain⟨h1,h2⟩:=Ur N most l low _ _ r h
   exact⟨(Jo _ _).trans h1,fun _=>h2 (by omega)⟩
theorem jO.off{α:Type}{w w2:World}{base b0 E:Nat}{inn:Nat→Prop}{bp mb:Nat}{B:jA}{kv:Value}{sets:List (List Nat)}{next:List (List Int)}{enc:α→List Value}{a:Option Addr}{n c:Nat}{xs:List α}(h:jO w base inn bp mb B kv sets next)(hs:w.heap.size≤b0)(ho:Own w2 b0 E 1 enc (.slice a n c) xs) :
  ∀ ad,a=some ad→ad.block<w2.heap.size∧ad.block≠bp∧ad.block≠B.tb∧ad.block≠mb∧kv.ownBlock≠some ad.block∧B.sv.ownBlock≠some ad.block∧B.nv.ownBlock≠some ad.block:=by
 rintro ad rfl
 have hb:=ho.blk (g:=ad.block) rfl
 have h1:=h.box.lt
 have h2:=h.tab.box.lt
 have h3:=h.tab.mp.lt
 obtain⟨_,r1,_,_⟩:=h.rows
 obtain⟨_,r2,_,_⟩:=h.nexts
 exact⟨hb.2,by omega,by omega,by omega,fun e=>by have:=(h.tab.own.blk e).2;omega,fun e=>by have:=(r1.blk e).2;omega,fun e=>by have:=(r2.blk e).2;omega⟩
theorem jO.turn{w w2:World}{base:Nat}{inn:Nat→Prop}{bp mb:Nat}{B:jA}{kv:Value}{sets:List (List Nat)}{next:List (List Int)}(h:jO w base inn bp mb B kv sets next)(g0:Option Nat)(hs:w.heap.size≤w2.heap.size)(hk:∀ b,b<w.heap.size→g0≠some b→w2.heap[b]?=w.heap[b]?)
  (h0:∀ g,g0=some g→g≠bp∧g≠B.tb∧g≠mb∧¬ inn g∧kv.ownBlock≠some g∧B.sv.ownBlock≠some g∧B.nv.ownBlock≠some g):jO w2 base inn bp mb B kv sets next:=by
 have hin:∀ b,inn b→b<w.heap.size→w2.heap[b]?=w.heap[b]?:=fun b hb hlt=>hk b hlt fun e=>(h0 b e).2.2.2.1 hb
 obtain⟨_,r1,_,_⟩:=h.rows
 obtain⟨_,r2,_,_⟩:=h.nexts
 refine⟨(hk bp h.box.lt fun e=>(h0 _ e).1 rfl).trans h.box,⟨(hk _ h.tab.box.lt fun e=>(h0 _ e).2.1 rfl).trans h.tab.box,h.tab.mp.same (hk mb h.tab.mp.lt fun e=>(h0 _ e).2.2.1 rfl),h.tab.own.same fun g hg=>hk g (h.tab.own.blk hg).2 fun e=>(h0 g e).2.2.2.2.1 hg,h.tab.lt⟩,
  h.rows.same hin (fun _ h=>h) fun g hg=>hk g (r1.blk hg).2 fun e=>(h0 g e).2.2.2.2.2.1 hg,h.nexts.same hin (fun _ h=>h) fun g hg=>hk g (r2.blk hg).2 fun e=>(h0 g e).2.2.2.2.2.2 hg,h.BR,fun b hb=>Nat.lt_of_lt_of_le (h.BU b hb) hs,h.rQ,h.J8,h.J9,h.Ko,h.sn,h.lt,h.small,Nat.le_trans h.bs hs⟩
theorem jO.agw{w w7:World}{base:Nat}{inn:Nat→Prop}{bp mb:Nat}{B:jA}{kv v':Value}{sets:List (List Nat)}{next:List (List Int)}{ra:Option Addr}{rc:Nat}{row:List Int}(h:jO w base inn bp mb B kv sets next)(hrow:ak w (.slice ra row.length rc) 1 encI row)(Jp:∀ ad,ra=some ad→inn ad.block){rl:List Jg}
  (hrn:Own w base 24 1 yx B.nv rl) (hrl:rl.length=next.length) (hre:∀ i (h1:i<rl.length) (h2:i<next.length),∃ a c,rl[i]=(a,next[i].length,c)∧dQ w inn (.slice a next[i].length c) encI next[i])
  (iF:Own w7 base 24 1 yx v' (rl++[(ra,row.length,rc)])) (cZ:(w.alloc (.cells #[.slice ra row.length rc] 24)).grownBy w7 B.nv.ownBlock) (um:v'.ownBlock=B.nv.ownBlock∨v'.ownBlock=some (w.alloc (.cells #[.slice ra row.length rc] 24)).heap.size) :
  jO (w7.setCell ⟨bp,261,none⟩ v') base inn bp mb { B with nv:=v' } kv sets (next++[row])∧∀ b,b<w.heap.size→b≠bp→B.nv.ownBlock≠some b→(w7.setCell ⟨bp,261,none⟩ v').heap[b]?=w.heap[b]?:=by
 have hlt:=h.lt
 have htl:=h.tab.lt
 have s8:(w.alloc (.cells #[.slice ra row.length rc] 24)).heap.size=w.heap.size+1:=World.size_alloc _ _
 have sg:=cZ.size
 have hk:∀ b,b<w.heap.size→b≠bp→B.nv.ownBlock≠some b→(w7.setCell ⟨bp,261,none⟩ v').heap[b]?=w.heap[b]?:=fun b hb n1 n2=>by
  rw[heap_setCell_other _ _ b _ n1,cZ.block b (by omega) (fun e=>n2 e.symm)]
  exact(aj w _).block b hb
 obtain⟨r1l,r1,r1n,r1e⟩:=h.rows
 have hin:∀ b,inn b→b<w.heap.size→(w7.setCell ⟨bp,261,none⟩ v').heap[b]?=w.heap[b]?:=fun b hb hlt'=>hk b hlt' (fun e=>h.rQ.1 (e▸hb)) (fun e=>h.Ko b e hb)
 have hbx:Box w7 bp (dI B) 148:=(h.box.alloc _).grown (hrn.kept (aj w _)) cZ hlt.1
 have hT:∀ g,B.nv.ownBlock=some g→kv.ownBlock≠some g:=fun g hg e=>by
  obtain⟨_,c1,b1⟩:=hrn.block g hg
  obtain⟨_,c2,b2⟩:=h.tab.own.block g e
  exact absurd (b1.lS b2) (by decide)
 refine⟨⟨?_,⟨(hk _ h.tab.box.lt hlt.2.1.symm fun e=>by have:=(hrn.blk e).1;omega).trans h.tab.box,h.tab.mp.same (hk mb h.tab.mp.lt hlt.2.2.symm fun e=>by have:=(hrn.blk e).1;omega),h.tab.own.same fun g hg=>hk g (h.tab.own.blk hg).2 (by have:=(h.tab.own.blk hg).1;omega) fun e=>hT g e hg,htl⟩,
  h.rows.same hin (fun _ h=>h) fun g hg=>hk g (r1.blk hg).2 (by have:=(r1.blk hg).1;omega) fun e=>h.sn g hg e,?_,h.BR,fun b hb=>by have:=h.BU b hb;rw[World.size_setCell];omega,h.rQ,h.J8,h.J9,?_,?_,hlt,h.small,by rw[World.size_setCell];have:=h.bs;omega⟩,hk⟩
 ·have:=hbx.set 261 v'
  rwa[VB] at this
 ·refine pX.snoc (rows:=rl) (x:=(ra,row.length,rc)) (iF.other _ _ hlt.1) hrl (fun i p q=>?_) (l:=row) (a:=ra) (c:=rc) rfl ?_
  ·obtain⟨a,c,m1,m2⟩:=hre i p q
   exact⟨a,c,m1,m2.same hin (fun _ h=>h)⟩
  ·exact⟨hrow.MR fun ad e hl=>hin _ (Jp ad e) hl,fun ad n' c' e=>Jp ad (Value.slice.inj e).1⟩
 ·intro g hg hi
  rcases um with e | e
  ·exact h.Ko g (e▸hg) hi
  ·have h1:v'.ownBlock=some g:=hg
   rw[e] at h1
   cases h1
   have:=h.BU _ hi;omega
 ·intro g hg hn
  have h1:v'.ownBlock=some g:=hn
  rcases um with e | e
  ·exact h.sn g hg (e▸h1)
  ·rw[e] at h1
   cases h1
   have:=(r1.blk hg).2;omega
def Ky(N:Nf)(most:Nat)(low:List Nat)(base h bp mb:Nat)(B:jA)(w:World)(e:Ending)(w':World):Prop :=
 Below h w w'∧match jU N most low (most+1) 0 [fU N [0]] [] with
 | none=>e=.returned (.bool false)
 | some (sets,next)=>e=.returned (.bool true)∧∃ inn kv sv nv,jO w' base inn bp mb { B with sv:=sv,nv:=nv } kv sets next∧dQ w' inn B.lo gB low∧∀ b,inn b→h≤b
def akg(N:Nf)(most:Nat)(low:List Nat)(base h bp mb:Nat)(B:jA)(R:Option (List (List Nat)×List (List Int)))(w:World)(i:Nat)(wr:World):Prop :=
 ∃ (f:Nat) (inn:Nat→Prop) (kv sv nv:Value) (sets:List (List Nat)) (next:List (List Int)),jO wr base inn bp mb { B with sv:=sv,nv:=nv } kv sets next∧(dQ wr inn B.lo gB low∧∀ b,inn b→h≤b)∧Below h w wr∧jU N most low f i sets next=R∧f+i=most+1∧sets.length≤most∧next.length=i
def amD(N:Nf)(most:Nat)(low:List Nat)(base h bp mb:Nat)(B:jA)(nv:Value)(l:List Nat)(sets:List (List Nat))(next:List (List Int))(RR:Option (List (List Nat)×List Int))(w:World)(rb:Nat)(rv:Value)(j:Nat)(wq:World):Prop :=
 ∃ (inn:Nat→Prop) (kv sv:Value) (BQ:List (List Nat)) (row:List Int),jO wq base inn bp mb { B with sv:=sv,nv:=nv } kv BQ next∧(dQ wq inn B.lo gB low∧∀ b,inn b→h≤b)∧Below h w wq∧sets <+: BQ∧rowP N most l (low.drop j) BQ row=RR∧BQ.length≤most ∧
  Own wq rb 3 1 encI rv row∧row.length=j∧rb≤wq.heap.size∧∀ g,rv.ownBlock=some g→¬ inn g∧kv.ownBlock≠some g∧sv.ownBlock≠some g∧nv.ownBlock≠some g
theorem adP(N:Nf)(lb eb:Nat)(kl ke:List (Int×Value))(va:Value)(most:Nat)(low:List Nat)(base h bp mb:Nat)(B:jA)(kv:Value)(inn:Nat→Prop)(w:World)(hT:Tab w)(hM:wu w B.m lb eb kl ke va N)(hB:jO w base inn bp mb B kv [] [])(hlo:dQ w inn B.lo gB low)(qH:∀ b,inn b→h≤b)
  (hst:B.st=N.states) (h0:0<N.states) (hm1:1≤most) (hm2:most≤65536) (hlow:low.length≤256) (hlow2:∀ x∈low,x<256) (hh:h≤bp∧h≤B.tb∧h≤mb∧h≤base) (hMh:∀ u,Below h w u→wu u B.m lb eb kl ke va N) (hTh:∀ u,Below h w u→Tab u) :
  Calls Tryz.prog 122 #[.pointer (some ⟨bp,0,none⟩),.int .i64 most] w (Ky N most low base h bp mb B w):=by
 have hstart:=adK B.m lb eb kl ke va N w hT hM h0
 have hset:=Ho N [0]
 have x0:w.cell? ⟨bp,0,none⟩=some (.pointer (some ⟨B.m,0,none⟩)):=(hB.box.cell 0).trans (ku B)
 have hbl:=hB.box.lt
 have hhw:h≤w.heap.size:=by omega
 obtain⟨R,hR⟩:∃ R,jU N most low (most+1) 0 [fU N [0]] []=R:=⟨_,rfl⟩
 have HS:=ah hstart;have HB:=ah hB;have HLO:=ah hlo;have HR:=ah hR;have HST:=ah hst;have yZ:=ah hset;have HM:=ah hMh;have HT:=ah hTh;have HLW:=ah hlow2;have YH:=ah qH
 clear qH
 clear hstart hB hlo hR hst hset hMh hTh hM hT hlow2
 go_enter Tryz.func122,Tryz.ntmps122
 go_wp2
 refine wp_scope_straight ?_
 go_wp2_with (go_at_call 158;go_must (refine HS.out.mono ?_;rintro e w2 ⟨a2,c2,rfl,ho2,hb2⟩))
 have hnum:=PZ base inn bp mb B kv [] [] (fU N [0]) a2 (fU N [0]).length c2 w2 (HB.out.kept hb2) (ho2.slice dR) (by rw[HST.out];exact yZ.out) (by simp) (HB.out.off (Nat.le_refl _) ho2)
 refine hnum.mono ?_
 rintro e w3 ⟨rfl,kv3,sv3,hB3,hK3⟩
 have hbw3:Below h w w3:=by
  obtain⟨_,r1,_,_⟩:=HB.out.rows
  refine(hb2.mono hhw).trans ⟨hK3.os,hK3.tape,hK3.output,hK3.size,fun b hb=>hK3.block b (by have:=hb2.size;omega) (by omega) (by omega) (by omega) (fun e=>?_) (fun e=>?_)⟩
  ·have:=(HB.out.tab.own.blk e).1;omega
  ·have:=(r1.blk e).1;omega
 have hlo3:dQ w3 (fun b=>inn b∨∃ ad,a2=some ad∧ad.block=b) B.lo gB low:=by
  have hl2:dQ w2 inn B.lo gB low:=HLO.out.same (fun b _ hlt=>hb2.block b hlt) (fun _ h=>h)
  have hB2:=HB.out.kept hb2
  refine hl2.same (fun b hb hlt=>hK3.block b hlt (fun e=>hB2.rQ.1 (e▸hb)) (fun e=>hB2.rQ.2.1 (e▸hb)) (fun e=>hB2.rQ.2.2 (e▸hb)) (fun e=>hB2.J8 b e hb) (fun e=>hB2.J9 b e hb)) (fun b hb=>.inl hb)
 have Sl:∀ b,(inn b∨∃ ad,a2=some ad∧ad.block=b)→h≤b:=by
  rintro b (hb | ⟨ad,rfl,rfl⟩)
  ·exact YH.out b hb
  ·have:=(ho2.blk (g:=ad.block) rfl).1;omega
 have hn1:(cO [] (fU N [0])).2=[fU N [0]]:=rfl
 rw[hn1] at hB3
 generalize hi3:(fun b=>inn b∨∃ ad,a2=some ad∧ad.block=b)=aiF at *
 replace Sl:∀ b,aiF b→h≤b:=fun b hb=>Sl b (by rw[←hi3] at hb;exact hb)
 clear hi3
 have HB3:=ah hB3;have HL3:=ah (And.intro hlo3 Sl);clear Sl;have HW3:=ah hbw3
 clear hnum hB3 hK3 hbw3 hlo3 hn1 ho2 hb2
 go_wp2
 refine wp_label ?_
 go_wp2
 go_loopw [5] (fun v wr=>∃ i:Nat,v=.int .i64 i∧i≤most∧akg N most low base h bp mb B R w i wr) (fun v _=>most+1 - (intOf v).toNat)
 case atStart=>exact⟨0,rfl,Nat.zero_le _,most+1,aiF,kv3,sv3,B.nv,_,_,HB3.out,HL3.out,HW3.out,HR.out,rfl,hm1,rfl⟩
 case round =>
  obtain⟨i,rfl,him,f,J7,kv',sv',Qh,sets,next,hB,⟨hlo,hin'⟩,hBw,hbp,hfi,hsm,hnx⟩:=hrel
  have HIN:=ah hin'
  clear hin'
  have Hq:=ah hnx
  clear hnx
  have hx:=hB.box
  obtain⟨pz,hro,hrl,hre⟩:=hB.rows
  obtain⟨sa,sc,hsv⟩:=hro.form
  dsimp only at hsv
  subst hsv
  rw[hrl] at hro
  have x5:wr.cell? ⟨bp,260,none⟩=some (.slice sa pz.length sc):=(hx.cell 260).trans (kF _)
  have Gv:=hx.lt
  rw[hrl] at x5
  by_cases hlt:i<sets.length
  ·obtain⟨f,rfl⟩:∃ f',f=f'+1:=⟨f - 1,by omega⟩
   rw[Qg N most low f i sets next hlt] at hbp
   obtain⟨RR,hRR⟩:∃ RR,rowP N most (sets.getD i []) low sets []=RR:=⟨_,rfl⟩
   rw[hRR] at hbp
   have hgd:sets.getD i []=sets[i]:=by rw[List.getD_eq_getElem?_getD,List.getElem?_eq_getElem hlt];rfl
   rw[hgd] at hRR
   obtain⟨la,lc,hlf⟩:∃ a c,B.lo=.slice a low.length c:=by obtain⟨a,_,_,c,hv,_⟩:=hlo.1;exact⟨a,c,hv⟩
   have x6:wr.cell? ⟨bp,258,none⟩=some (.slice la low.length lc):=((hx.cell 258).trans (uY _)).trans (congrArg some hlf)
   have hlo1:=hlo.1
   rw[hlf] at hlo1
   obtain⟨lob,loo,_,hlc,OE,aiG,aiH⟩:=ak.dG (f:=fun x:Nat=>Value.int .u8 (x:Nat)) hlo1
   have amE:(i:Int)<(sets.length:Int):=by omega
   have HLF:=ah hlf;have amF:=ah aiG;have aqf:=ah aiH;have HBu:=ah hB;have amG:=ah hlo;have iG:=ah hBw;have HBP:=ah hbp;have HRR:=ah hRR;have HRE:=ah hre;have E8:=ah hro;have zA:=ah hrl;have HFI:=ah hfi
   have hbs:=hB.bs
   clear hlf aiG aiH hlo1 hB hlo hBw hbp hRR hre hro hrl hgd hfi
   obtain⟨nl,hnl⟩:∃ nl,low.length=nl:=⟨_,rfl⟩
   have Np:=ah hnl
   rw[hnl] at x6 hlc hlow
   clear hnl
   go_wp2_with (refine yX rfl 24 _ _ rfl jl uP nl rfl rfl (by omega) (by simp only[maxLen];omega) wr.heap.size (Nat.le_refl _) ?_;intro w4 pW hg4;have hB4:Below wr.heap.size wr w4:=(Below.refl _ _).grown hg4 (Nat.le_refl _) (fun k hk=>by cases hk);have x7:w4.cell? ⟨bp,258,none⟩=some (.slice la nl lc):=(hB4.cell Gv).trans x6)
   clear x7 hg4 x5 x6
   have Us:=HBu.out.off (Nat.le_refl _) pW
   have HO4:=ah pW;have HB4:=ah hB4;have EU:=ah Us
   clear pW hB4 Us
   go_loopw [6,36] (fun v j wq=>∃ (t:Nat) ,j=.int .i64 t∧t≤nl∧amD N most low base h bp mb B Qh sets[i] sets next RR w wr.heap.size v t wq) (fun _ j _=>nl - (intOf j).toNat)
   case atStart =>
    refine⟨0,rfl,Nat.zero_le _,J7,kv',_,sets,[],HBu.out.kept HB4.out,⟨amG.out.same (fun b _ hlt=>HB4.out.block b hlt) (fun _ h=>h),HIN.out⟩,iG.out.trans (HB4.out.mono (by have:=iG.out.size;omega)),List.prefix_refl _,HRR.out,hsm,HO4.out,rfl,HB4.out.size,fun g hg=>?_⟩
    obtain⟨h1,h2,h3,h4,h5,h6,h7⟩:=EU.out ⟨wr.heap.size,0,none⟩ rfl
    cases hg
    exact⟨fun hi=>absurd (HBu.out.BU _ hi) (Nat.lt_irrefl _),h5,h6,h7⟩
   case round =>
    obtain⟨t,rfl,htn,xP,kv5,sv5,jr,row,bF,⟨Ut,acQ⟩,Di,hpre,Xa,aiJ,Df,adQ,nP,YI⟩:=hrel
    have aiK:=ah acQ
    clear acQ
    obtain⟨ra,rc,hrv⟩:=Df.form
    subst hrv
    have hrq:row.length≤256:=by omega
    by_cases hlt2:t<nl
    ·have htl:t<low.length:=by rw[Np.out];exact hlt2
     have YJ:=Ut.1
     rw[HLF.out] at YJ
     obtain rfl:=amF.out t htl
     obtain⟨amH,amI,_,_,_,aiL,aiM⟩:=ak.dG (f:=fun x:Nat=>Value.int .u8 (x:Nat)) YJ
     have aiN:=aiL t htl
     have c0:=aiM t htl wr (Below.refl _ _)
     have hdr:low.drop t=low[t]::low.drop (t+1):=List.drop_eq_getElem_cons htl
     rw[hdr,Qe] at Xa
     have hc6:=HLW.out _ (List.getElem_mem htl)
     generalize low[t]=c at *
     obtain⟨Uu,OB,amJ,aiO⟩:=bF.rows
     obtain⟨sa5,sc5,aiP⟩:=OB.form
     dsimp only at aiP
     subst aiP
     have hi5:i<jr.length:=Nat.lt_of_lt_of_le hlt hpre.length_le
     have hi6:i<Uu.length:=by omega
     have hsi:jr[i]=sets[i]:=(hpre.getElem hlt).symm
     obtain⟨ai,ci,e1,e2,_⟩:=aiO i hi6 hi5
     rw[hsi] at e1 e2
     obtain⟨Uw,Xb,_,hrc,aqg,hra,hrx⟩:=ak.dG (f:=fun x:Jg=>Value.slice x.1 x.2.1 x.2.2) (OB.slice AZ)
     obtain rfl:=hra i hi6
     have YK:=bF.BR _ (List.getElem_mem hi5)
     rw[hsi] at YK
     have amK:sets[i].length≤65536:=by
      obtain⟨S,_,e⟩:=YK
      rw[e]
      exact Nat.le_trans (O5 _ _) bF.small
     have hsp:yA B.st (iC N sets[i] c):=by rw[HST.out];exact Ho N _
     have aqh:=World.block_lt_of_cell? wr _ c0
     have HF:Hid (∀ u,Below wr.drew.heap.size wr.drew u→jO u base xP bp mb { B with sv:=.slice (some ⟨Uw,Xb,none⟩) Uu.length sc5,nv:=Qh } kv5 jr next∧Below h w u∧ak u (.slice ai sets[i].length ci) 1 aS sets[i]∧u.cell? ⟨Uw,Xb+i,none⟩=some (.slice ai sets[i].length ci)∧dQ u xP B.lo gB low):=ah fun u hl=>by
      have h1:Below wr.heap.size wr u:=(Below.refl wr.heap.size wr).drew.trans hl
      refine⟨bF.kept h1,Di.trans (h1.mono (by have:=Di.size;omega)),e2.kept h1,?_,Ut.same (fun b _ hlt=>h1.block b hlt) (fun _ h=>h)⟩
      have:=hrx i hi6 u h1
      rw[e1] at this
      exact this
     have hti:(i:Int)<(Uu.length:Int):=by omega
     have hi0:(0:Int)≤(i:Int):=by omega
     have aqi:(t:Int)<(nl:Int):=by omega
     have ht0:(0:Int)≤(t:Int):=by omega
     have HRP:=ah Xa;have amL:=ah hpre;have amM:=ah Df;have amN:=ah adQ;have aiR:=ah YI;have wI:=ah bF;have aqj:=ah Di
     have hinj:=Option.some.inj aiN
     obtain⟨rfl,rfl⟩:lob=amH∧loo=amI:=by
      have h1:=congrArg Addr.block hinj
      have h2:=congrArg Addr.off hinj
      exact⟨h1,h2⟩
     clear Xa hpre Df adQ YI bF Di Ut YJ aiL aiM aiN hdr amJ aiO OB hsi e1 e2 hra hrx YK hinj
     go_wp2_with fail
     refine jC (R:=Later) [15,17] (by kernel_rfl) ?_
     refine pl [0,1,2,3,4] ?_
     repeat
      refine oP ?_ rfl (fun w1=>?_) ?_
      rotate_left
      ·go_simp;try with_reducible rfl
      simp only[eA,eB,eC,Act.put,eD,eE,eF]
     refine bP ?_
     refine Bv 5 ?_ rfl (fun w1 hl=>?_) ?_
     rotate_left
     ·obtain⟨hX,_,_,hcl,_⟩:=HF.out w1 hl;have y0:w1.cell? ⟨bp,0,none⟩=some (.pointer (some ⟨B.m,0,none⟩)):=(hX.box.cell 0).trans (ku _);have y5:w1.cell? ⟨bp,260,none⟩=some (.slice (some ⟨Uw,Xb,none⟩) Uu.length sc5):=(hX.box.cell 260).trans (kF _);go_simp;try with_reducible rfl
     simp only[eA,eB,eC,Act.put,eD,eE,eF]
     refine pl [6,7,8] ?_
     repeat
      refine oP ?_ rfl (fun w1=>?_) ?_
      rotate_left
      ·go_simp;try with_reducible rfl
      simp only[eA,eB,eC,Act.put,eD,eE,eF]
     refine bP ?_
     refine Bv 9 ?_ rfl (fun w1 hl=>?_) ?_
     rotate_left
     ·obtain⟨hX,_,_,hcl,_⟩:=HF.out w1 hl;have y0:w1.cell? ⟨bp,0,none⟩=some (.pointer (some ⟨B.m,0,none⟩)):=(hX.box.cell 0).trans (ku _);have y5:w1.cell? ⟨bp,260,none⟩=some (.slice (some ⟨Uw,Xb,none⟩) Uu.length sc5):=(hX.box.cell 260).trans (kF _);go_simp;try with_reducible rfl
     simp only[eA,eB,eC,Act.put,eD,eE,eF]
     refine pl [10,11] ?_
     repeat
      refine oP ?_ rfl (fun w1=>?_) ?_
      rotate_left
      ·go_simp;try with_reducible rfl
      simp only[eA,eB,eC,Act.put,eD,eE,eF]
     refine bP ?_
     refine Bv 12 ?_ rfl (fun w1 hl=>?_) ?_
     rotate_left
     ·obtain⟨hX,_,_,hcl,_⟩:=HF.out w1 hl;have y0:w1.cell? ⟨bp,0,none⟩=some (.pointer (some ⟨B.m,0,none⟩)):=(hX.box.cell 0).trans (ku _);have y5:w1.cell? ⟨bp,260,none⟩=some (.slice (some ⟨Uw,Xb,none⟩) Uu.length sc5):=(hX.box.cell 260).trans (kF _);go_simp;try with_reducible rfl
     simp only[eA,eB,eC,Act.put,eD,eE,eF]
     refine KX 13 ?_ rfl (fun w1=>?_) ?_
     rotate_left
     ·go_simp;try with_reducible rfl
     simp only[eA,eB,eC,Act.put,eD,eE,eF]
     refine dD (T:=[15,17]) (i:=14) (by kernel_rfl) rfl (fun w1 hl K hK=>?_)
     obtain⟨hX,hBw1,hsl1,_,hlo1⟩:=HF.out w1 hl
     have adR:=amM.out.kept ((Below.refl wr.heap.size wr).drew.trans hl)
     have nP:=Nat.le_trans nP hl.size
     have hstp:=agu B.m lb eb kl ke va N ai sets[i].length ci sets[i] c w1 (HT.out w1 hBw1) (HM.out w1 hBw1) hsl1 amK hc6
     clear hl
     go_simp
     refine hstp.mono ?_
     rintro e w5 ⟨a5,c5,rfl,BZ,hb5⟩
     refine hK.out _ _ (fun _=>hb5) ?_
     clear hK K hstp
     have adS:=hX.off (Nat.le_refl _) BZ
     have nP:=Nat.le_trans nP hb5.size
     have dF:=hX.kept hb5
     have aiS:=adR.kept hb5
     have aiT:dQ w5 xP B.lo gB low:=hlo1.same (fun b _ hlt=>hb5.block b hlt) (fun _ h=>h)
     have Kz:=hBw1.trans (hb5.mono (by have:=hBw1.size;omega))
     have acR:∀ b,(xP b∨∃ ad,a5=some ad∧ad.block=b)→h≤b:=by
      rintro b (hb | ⟨ad,rfl,rfl⟩)
      ·exact aiK.out b hb
      ·have h1:=(BZ.blk (g:=ad.block) rfl).1;have h2:=hBw1.size;omega
     have adT:=ah acR
     clear acR
     have Us:∀ ad,a5=some ad→∀ g,(Value.slice ra row.length rc).ownBlock=some g→g≠ad.block:=fun ad ha g hg=>by
      subst ha
      have h1:=(BZ.blk (g:=ad.block) rfl).1
      have h2:=(adR.blk hg).2
      omega
     clear hX hBw1 hsl1 hlo1 adR hb5
     refine dD (T:=[15,17]) (i:=15) (by kernel_rfl) rfl (fun w1 hl K hK=>?_)
     have uh:=dF.kept hl
     have zy:=BZ.kept hl
     have YL:=aiS.kept hl
     have Ux:dQ w1 xP B.lo gB low:=aiT.same (fun b _ hlt=>hl.block b hlt) (fun _ h=>h)
     have Bc:=Kz.trans (hl.mono (by have:=Kz.size;omega))
     have akh:=fun ad ha=>(adS ad ha)
     have YM:=hl.size
     have nP:=Nat.le_trans nP YM
     clear hl dF BZ aiS aiT Kz
     have hnum:=PZ base xP bp mb { B with sv:=.slice (some ⟨Uw,Xb,none⟩) Uu.length sc5,nv:=Qh } kv5 jr next (iC N sets[i] c) a5 (iC N sets[i] c).length c5 w1 uh (zy.slice dR) hsp (by omega) (fun ad ha=>by
      obtain⟨h1,h2⟩:=adS ad ha
      exact⟨by omega,h2⟩)
     go_simp
     refine hnum.mono ?_
     rintro e w6 ⟨rfl,kv6,sv6,ny,hK6⟩
     refine hK.out _ _ (fun h=>absurd h (by decide)) ?_
     clear hK K hnum
     have abr:∀ g,(Value.slice ra row.length rc).ownBlock=some g→w6.heap[g]?=w1.heap[g]?:=fun g hg=>by
      obtain⟨n1,n2,n3,n4⟩:=aiR.out g hg
      have hgb:=YL.blk hg
      have hl1:=uh.lt
      have hl2:=uh.tab.lt
      exact hK6.block g hgb.2 (by omega) (by omega) (by omega) n2 n3
     have aiU:=YL.same abr
     have nP:=Nat.le_trans nP hK6.size
     have Uy:dQ w6 (fun b=>xP b∨∃ ad,a5=some ad∧ad.block=b) B.lo gB low :=
      Ux.same (fun b hb hlt=>hK6.block b hlt (fun e=>uh.rQ.1 (e▸hb)) (fun e=>uh.rQ.2.1 (e▸hb)) (fun e=>uh.rQ.2.2 (e▸hb)) (fun e=>uh.J8 b e hb) (fun e=>uh.J9 b e hb)) (fun b hb=>.inl hb)
     have adU:Below h w w6:=by
      obtain⟨_,r1,_,_⟩:=uh.rows
      refine Bc.trans ⟨hK6.os,hK6.tape,hK6.output,hK6.size,fun b hb=>hK6.block b (by have:=Bc.size;omega) (by omega) (by show b≠B.tb;omega) (by omega) (fun e=>?_) (fun e=>?_)⟩
      ·have:=(uh.tab.own.blk e).1;omega
      ·have:=(r1.blk e).1;omega
     have aiV:∀ g,(Value.slice ra row.length rc).ownBlock=some g→g<w6.heap.size∧¬ (xP g∨∃ ad,a5=some ad∧ad.block=g)∧kv6.ownBlock≠some g∧sv6.ownBlock≠some g∧Qh.ownBlock≠some g:=fun g hg=>by
      obtain⟨n1,n2,n3,n4⟩:=aiR.out g hg
      have hgb:=YL.blk hg
      refine⟨by have:=hK6.size;omega,?_,fun e=>?_,fun e=>?_,n4⟩
      ·rintro(h1 | ⟨ad,h1,h2⟩)
       ·exact n1 h1
       ·exact Us ad h1 g hg h2.symm
      ·rcases hK6.aaV g e with h1 | h1
       ·exact n2 h1
       ·omega
      ·rcases hK6.TR g e with h1 | h1
       ·exact n3 h1
       ·omega
     clear abr Us adS akh uh zy YL Ux Bc hK6 YM
     generalize hii:(fun b=>xP b∨∃ ad,a5=some ad∧ad.block=b)=Dj at *
     replace adT:Hid (∀ b,Dj b→h≤b):=ah fun b hb=>adT.out b (by rw[←hii] at hb;exact hb)
     have afl:∀ g,(Value.slice ra row.length rc).ownBlock=some g→g<w6.heap.size∧¬ Dj g∧kv6.ownBlock≠some g∧sv6.ownBlock≠some g∧Qh.ownBlock≠some g:=fun g hg=>by rw[←hii];exact aiV g hg
     clear aiV hii
     refine dD (T:=[15,17]) (i:=16) (by kernel_rfl) rfl (fun w1 hl K hK=>?_)
     have pK:=ny.kept hl
     have afm:=aiU.kept hl
     have afn:dQ w1 Dj B.lo gB low:=Uy.same (fun b _ hlt=>hl.block b hlt) (fun _ h=>h)
     have YN:=adU.trans (hl.mono (by have:=adU.size;omega))
     have YM:=hl.size
     have nP:=Nat.le_trans nP YM
     clear hl ny aiU Uy adU
     go_simp
     refine hK.out _ _ (fun _=>aj _ _) ?_
     clear hK K
     have hsl:=qR uP w1 3 [(((cO jr (iC N sets[i] c)).1:Nat):Int)] (by simp[maxLen])
     have aiW:=pK.kept (aj w1 (.cells #[.int .i64 ((cO jr (iC N sets[i] c)).1:Nat)] 3))
     have afo:=afm.kept (aj w1 (.cells #[.int .i64 ((cO jr (iC N sets[i] c)).1:Nat)] 3))
     have afp:dQ (w1.alloc (.cells #[.int .i64 ((cO jr (iC N sets[i] c)).1:Nat)] 3)) Dj B.lo gB low:=afn.same (fun b _ hlt=>(aj w1 _).block b hlt) (fun _ h=>h)
     have YO:=YN.trans ((aj w1 (.cells #[.int .i64 ((cO jr (iC N sets[i] c)).1:Nat)] 3)).mono (by have:=YN.size;omega))
     change ak (w1.alloc (.cells #[.int .i64 ((cO jr (iC N sets[i] c)).1:Nat)] 3)) _ _ _ _ at hsl
     have amO:w1.heap.size+1=(w1.alloc (.cells #[.int .i64 ((cO jr (iC N sets[i] c)).1:Nat)] 3)).heap.size:=(World.size_alloc _ _).symm
     have nP:=Nat.le_trans nP (Nat.le_trans (Nat.le_succ _) (Nat.le_of_eq amO))
     clear pK afm afn YN
     generalize (w1.alloc (.cells #[.int .i64 ((cO jr (iC N sets[i] c)).1:Nat)] 3))=wq at *
     refine dD (T:=[15,17]) (i:=17) (by kernel_rfl) rfl (fun w1 hl K hK=>?_)
     have rP:=aiW.kept hl
     have QK:=afo.kept hl
     have QL:dQ w1 Dj B.lo gB low:=afp.same (fun b _ hlt=>hl.block b hlt) (fun _ h=>h)
     have Ny:=YO.trans (hl.mono (by have:=YO.size;omega))
     have hnw:=FP (hsl.kept hl)
     have amP:=hl.size
     have nP:=Nat.le_trans nP amP
     clear hl aiW afo afp YO hsl
     refine gK (by rfl) ?_
     have aki:=rP.bs
     refine qg _ _ 24 rfl jl uP rfl QK _ 1 (((cO jr (iC N sets[i] c)).1:Nat):Int) rfl hnw (by simp only[maxLen];omega) (by omega) nP ?_
     intro a' cap' w' hown' hg hfr
     refine hK.out _ _ (fun h=>absurd h (by decide)) ?_
     clear hK K hnw
     simp only[List.getElem_toArray,List.getElem_cons_zero,List.getElem_cons_succ,Act.put,List.setIfInBounds_toArray,List.set_cons_zero,List.set_cons_succ]
     change w1.grownBy w' (Value.slice ra row.length rc).ownBlock at hg
     have hrow0:∀ g,(Value.slice ra row.length rc).ownBlock=some g→g≠bp∧g≠B.tb∧g≠mb∧¬ Dj g∧kv6.ownBlock≠some g∧sv6.ownBlock≠some g∧Qh.ownBlock≠some g:=fun g hgg=>by
      obtain⟨n0,n1,n2,n3,n4⟩:=afl g hgg
      have hgb:=QK.blk hgg
      have hl1:=rP.lt
      have hl2:=rP.tab.lt
      exact⟨by omega,by show g≠B.tb;have:B.tb<base:=hl2.1;omega,by omega,n1,n2,n3,n4⟩
     have aiX:=rP.turn (Value.slice ra row.length rc).ownBlock hg.size (fun b hb hn=>hg.block b hb fun e=>hn e.symm) hrow0
     have afq:dQ w' Dj B.lo gB low:=QL.same (fun b hb hlt=>hg.block b hlt fun e=>(hrow0 b e.symm).2.2.2.1 hb) (fun _ h=>h)
     have YP:Below h w w':=Ny.trans ⟨hg.os,hg.tape,hg.output,hg.size,fun b hb=>hg.block b (by have:=Ny.size;omega) fun e=>by have:=(QK.blk e.symm).1;omega⟩
     have afr:∀ g,(Value.slice a' (row.length+1) cap').ownBlock=some g→¬ Dj g∧kv6.ownBlock≠some g∧sv6.ownBlock≠some g∧Qh.ownBlock≠some g:=fun g hgg=>by
      rcases hfr with e | e
      ·rw[e] at hgg
       exact(hrow0 g hgg).2.2.2
      ·rw[e] at hgg
       cases hgg
       obtain⟨_,r1,_,_⟩:=rP.rows
       obtain⟨_,r2,_,_⟩:=rP.nexts
       exact⟨fun hi=>by have:=rP.BU _ hi;omega,fun e=>by have:=(rP.tab.own.blk e).2;omega,fun e=>by have:=(r1.blk e).2;omega,fun e=>by have:=(r2.blk e).2;omega⟩
     have nP:=Nat.le_trans nP hg.size
     clear hrow0 hfr hg rP QK QL Ny afl aki
     refine KX 18 ?_ rfl (fun w1=>?_) ?_
     rotate_left
     ·go_simp;try with_reducible rfl
     simp only[eA,eB,eC,Act.put,eD,eE,eF]
     refine kP (by kernel_rfl) (fun w1 hl=>?_) _
     have Uz:=aiX.kept hl
     have afs:=hown'.kept hl
     have aft:dQ w1 Dj B.lo gB low:=afq.same (fun b _ hlt=>hl.block b hlt) (fun _ h=>h)
     have afu:=YP.trans (hl.mono (by have:=YP.size;omega))
     have nP:=Nat.le_trans nP hl.size
     clear hl aiX afq YP hown'
     obtain⟨rl8,adV,adW,_⟩:=Uz.rows
     obtain⟨sa8,sc8,aiY⟩:=adV.form
     dsimp only at aiY
     subst aiY
     rw[adW] at adV
     have z5:w1.cell? ⟨bp,260,none⟩=some (.slice sa8 rl8.length sc8):=(Uz.box.cell 260).trans (kF _)
     rw[adW] at z5
     have hbz:=Uz.box.lt
     have afv:=amL.out.trans (Jo jr (iC N sets[i] c))
     have OH:=HRP.out
     have amQ:=ah Uz;have akj:=ah afs;have akk:=ah aft;have afw:=ah afu;have akl:=ah afr;have akm:=ah afv;have HRB:=ah nP
     clear Uz afs aft afu afr afv nP adW adV HF hsp
     by_cases hmo:most<(cO jr (iC N sets[i] c)).2.length
     ·rw[if_pos hmo] at OH
      have hRN:R=none:=by
       have:=HBP.out
       rw[←OH] at this
       exact this.symm
      have hRB:Ky N most low base h bp mb B w (.returned (.bool false)) w1:=⟨afw.out,by rw[HR.out,hRN]⟩
      have amR:=ah hRB
      have hle:decide (((cO jr (iC N sets[i] c)).2.length:Int)≤(most:Int))=false:=decide_eq_false (by omega)
      have hgt:decide ((most:Int)<((cO jr (iC N sets[i] c)).2.length:Int))=true:=decide_eq_true (by omega)
      have hlen:decide ((cO jr (iC N sets[i] c)).2.length≤most)=false:=decide_eq_false (by omega)
      have amS:decide (most<(cO jr (iC N sets[i] c)).2.length)=true:=decide_eq_true hmo
      clear OH hRN hRB
      go_wp2
      go_ret
      exact amR.out
     ·rw[if_neg hmo] at OH
      have hgt:decide ((most:Int)<((cO jr (iC N sets[i] c)).2.length:Int))=false:=decide_eq_false (by omega)
      have amT:=ah OH
      have amU:(cO jr (iC N sets[i] c)).2.length≤most:=by omega
      have amV:=ah amU
      have amS:decide (most<(cO jr (iC N sets[i] c)).2.length)=false:=decide_eq_false hmo
      clear OH
      go_wp2
      exact⟨⟨t+1,by push_cast;rfl,hlt2,Dj,kv6,_,(cO jr (iC N sets[i] c)).2,_,amQ.out,⟨akk.out,adT.out⟩,afw.out,akm.out,amT.out,amV.out,akj.out,by rw[List.length_append,amN.out];rfl,HRB.out,akl.out⟩,by simp[intOf];omega⟩
    ·obtain rfl:t=nl:=by omega
     have hd:low.drop t=[]:=List.drop_of_length_le (by rw[Np.out];exact Nat.le_refl _)
     rw[hd,rowP] at Xa
     have adX:=HBP.out
     rw[←Xa] at adX
     obtain⟨UA,ai0,ai1,ai2⟩:=bF.nexts
     obtain⟨na9,nc9,ai3⟩:=ai0.form
     dsimp only at ai3
     subst ai3
     have z6:wr.cell? ⟨bp,261,none⟩=some (.slice na9 UA.length nc9):=(bF.box.cell 261).trans (vg _)
     have hbz:=bF.box.lt
     have afx:∀ ad,ra=some ad→ad.block<wr.heap.size∧ad.block≠bp∧ad.block≠B.tb∧ad.block≠mb∧kv5.ownBlock≠some ad.block∧sv5.ownBlock≠some ad.block∧(Value.slice na9 UA.length nc9).ownBlock≠some ad.block:=by
      rintro ad rfl
      obtain⟨n1,n2,n3,n4⟩:=YI ad.block rfl
      have hgb:=Df.blk (g:=ad.block) rfl
      have hl1:=bF.lt
      have hl2:B.tb<base∧mb<base∧B.tb≠mb:=bF.tab.lt
      exact⟨hgb.2,by omega,by omega,by omega,n2,n3,n4⟩
     have amW:Hid (∀ g,(Value.slice ra row.length rc).ownBlock=some g→h≤g):=ah fun g hg=>by have h1:=(Df.blk hg).1;have h2:=iG.out.size;omega
     have lZ:=bF.more (Nat.le_refl _) afx
     have Uy:dQ wr (fun b=>xP b∨∃ ad,ra=some ad∧ad.block=b) B.lo gB low:=Ut.same (fun _ _ _=>rfl) (fun b hb=>.inl hb)
     have afy:∀ i (h1:i<UA.length) (h2:i<next.length),∃ a c,UA[i]=(a,next[i].length,c)∧dQ wr (fun b=>xP b∨∃ ad,ra=some ad∧ad.block=b) (.slice a next[i].length c) encI next[i]:=fun i h1 h2=>by
      obtain⟨a,c,m1,m2⟩:=ai2 i h1 h2
      exact⟨a,c,m1,m2.same (fun _ _ _=>rfl) (fun b hb=>.inl hb)⟩
     have apH:UA.length+1≤1099511627777:=by have:=Hq.out;omega
     have aqk:=bF.bs
     have HB9:=ah lZ;have amX:=ah Uy;have amY:=ah afy;have YQ:=ah ai0;have amZ:=ah ai1;have am0:=ah (Df.slice uP);have am1:=ah adX;have ai4:=ah Di;have am2:=ah aiJ;have aql:=ah hpre
     clear bF Ut Di hpre Xa aiJ Df YI afx adQ lZ Uy ai2 afy ai1 adX hd
     go_wp2_with (at_builtin;go_must (refine fA rfl _ _ 23 rfl G6 AZ rfl (YQ.out.kept (aj _ _)) ⟨wr.heap.size,0,none⟩ 1 (ra,row.length,rc) rfl (dA wr [.slice ra row.length rc] _) (by simp only[maxLen];omega) (by omega) (by simp only[World.size_alloc];omega) ?_;intro a7 c7 w7 iF cZ um;have hb7:=(HB9.out.box.alloc (.cells #[.slice ra row.length rc] 24)).grown (YQ.out.kept (aj _ _)) cZ HB9.out.lt.1;have q1:=(hb7.cell 261).trans (vg _);have f1:=hb7.free 261;have Gn:=hb7.lt))
     obtain⟨am3,hk10⟩:=HB9.out.agw am0.out (fun ad e=>.inr ⟨ad,e,rfl⟩) YQ.out amZ.out amY.out iF cZ um
     have QL:dQ (w7.setCell ⟨bp,261,none⟩ (.slice a7 (UA.length+1) c7)) (fun b=>xP b∨∃ ad,ra=some ad∧ad.block=b) B.lo gB low :=
      amX.out.same (fun b hb hlt=>hk10 b hlt (fun e=>HB9.out.rQ.1 (e▸hb)) (fun e=>HB9.out.Ko b e hb)) (fun _ h=>h)
     have akn:∀ b,(xP b∨∃ ad,ra=some ad∧ad.block=b)→h≤b:=by
      rintro b (hb | ⟨ad,rfl,rfl⟩)
      ·exact aiK.out b hb
      ·exact amW.out ad.block rfl
     have aqm:=cZ.size
     have am4:(wr.alloc (.cells #[.slice ra row.length rc] 24)).heap.size=wr.heap.size+1:=World.size_alloc _ _
     have Ny:Below h w (w7.setCell ⟨bp,261,none⟩ (.slice a7 (UA.length+1) c7)):=ai4.out.trans ⟨cZ.os,cZ.tape,cZ.output,by rw[World.size_setCell];omega,fun b hb=>hk10 b (by have:=ai4.out.size;omega) (by omega) fun e=>by have:=(YQ.out.blk e).1;omega⟩
     exact⟨⟨i+1,by push_cast;rfl,by omega,f,_,kv5,sv5,_,jr,_,am3,⟨QL,akn⟩,Ny,am1.out,by have:=HFI.out;omega,am2.out,by rw[List.length_append,Hq.out];rfl⟩,by simp[intOf];omega⟩
  ·rw[Nw N most low f i sets next hlt] at hbp
   have amE:decide ((i:Int)<(sets.length:Int))=false:=decide_eq_false (by omega)
   have hle:decide ((sets.length:Int)≤(most:Int))=true:=decide_eq_true (by omega)
   have hRB:Ky N most low base h bp mb B w (.returned (.bool true)) wr:=by
    refine⟨hBw,?_⟩
    rw[HR.out,←hbp]
    exact⟨rfl,J7,kv',_,Qh,hB,hlo,HIN.out⟩
   have HRB:=ah hRB
   clear hRB hB hlo hbp hro hre hx hBw hrl
   generalize sets.length=q at *
   clear hfi
   go_wp2
   rw[Exit.noGoto_ret]
   go_ret
   exact HRB.out
end Go.Proofs.YtaoinbjjolikhaaGreatDoor
