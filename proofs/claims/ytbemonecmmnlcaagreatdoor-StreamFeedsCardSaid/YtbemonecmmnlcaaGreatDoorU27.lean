/- The texts of T27, in few letters (mini.py). -/
import Derived.Test.YtbemonecmmnlcaaGreatDoorU26
set_option linter.unusedVariables false
set_option linter.unusedSimpArgs false
set_option maxRecDepth 20000
set_option maxHeartbeats 6400000
namespace Go.Proofs.YtbemonecmmnlcaaGreatDoor
open Go.RowKit
theorem GL(N:Nf)(l:List Nat):yj N.states (gq N l):=⟨_,Fp _ _ _ _ (JC _ _ _ (Nat.pos_of_ne_zero (by simp))),rfl⟩
theorem TT{sets:List (List Nat)}{l:List Nat}{j:Nat}(h:sets.idxOf? l=some j):dw sets l=(j,sets):=by unfold dw;rw[h]
theorem TU{sets:List (List Nat)}{l:List Nat}(h:sets.idxOf? l=none):dw sets l=(sets.length,sets++[l]):=by unfold dw;rw[h]
theorem Jf(sets:List (List Nat))(l:List Nat):sets <+: (dw sets l).2:=by
 cases h:sets.idxOf? l with
 | some j=>rw[TT h];exact List.prefix_refl _
 | none=>rw[TU h];exact List.prefix_append _ _
theorem PS(N:Nf)(most:Nat)(l:List Nat)(c:Nat)(low:List Nat)(sets:List (List Nat))(row:List Int):rowP N most l (c::low) sets row=if most<(dw sets (iy N l c)).2.length then none else rowP N most l low (dw sets (iy N l c)).2 (row++[((dw sets (iy N l c)).1:Int)]):=rfl
theorem PU(N:Nf)(most:Nat)(low:List Nat)(f i:Nat)(sets:List (List Nat))(next:List (List Int))(h:i<sets.length):jP N most low (f+1) i sets next=match rowP N most (sets.getD i []) low sets [] with
  | none=>none
  | some (BH,row)=>jP N most low f (i+1) BH (next++[row]):=by rw[jP,if_pos h];rfl
theorem Na(N:Nf)(most:Nat)(low:List Nat)(f i:Nat)(sets:List (List Nat))(next:List (List Int))(h:¬ i<sets.length):jP N most low f i sets next=some (sets,next):=by
 cases f with
 | zero=>rfl
 | succ f=>rw[jP,if_neg h]
theorem TV(N:Nf)(most:Nat)(l:List Nat):∀ (low:List Nat) (sets:List (List Nat)) (row:List Int) (r:List (List Nat)×List Int),rowP N most l low sets row=some r→sets <+: r.1∧(sets.length≤most→r.1.length≤most)
 | [],sets,row,r,h=>by
  rw[rowP] at h
  obtain rfl:=Option.some.inj h
  exact⟨List.prefix_refl _,id⟩
 | c::low,sets,row,r,h=>by
  rw[PS] at h
  split at h
  ·cases h
  ·rename_i hm
   obtain⟨h1,h2⟩:=TV N most l low _ _ r h
   exact⟨(Jf _ _).trans h1,fun _=>h2 (by omega)⟩
theorem jH.off{α:Type}{w w2:World}{base b0 E:Nat}{inn:Nat→Prop}{bp mb:Nat}{B:jo}{kv:Value}{sets:List (List Nat)}{next:List (List Int)}{enc:α→List Value}{a:Option Addr}{n c:Nat}{xs:List α}(h:jH w base inn bp mb B kv sets next)(hs:w.heap.size≤b0)(ho:Own w2 b0 E 1 enc (.slice a n c) xs) :
  ∀ ad,a=some ad→ad.block<w2.heap.size∧ad.block≠bp∧ad.block≠B.tb∧ad.block≠mb∧kv.ownBlock≠some ad.block∧B.sv.ownBlock≠some ad.block∧B.nv.ownBlock≠some ad.block:=by
 rintro ad rfl
 have hb:=ho.blk (g:=ad.block) rfl
 have h1:=h.box.lt
 have h2:=h.tab.box.lt
 have h3:=h.tab.mp.lt
 obtain⟨_,r1,_,_⟩:=h.rows
 obtain⟨_,r2,_,_⟩:=h.nexts
 exact⟨hb.2,by omega,by omega,by omega,fun e=>by have:=(h.tab.own.blk e).2;omega,fun e=>by have:=(r1.blk e).2;omega,fun e=>by have:=(r2.blk e).2;omega⟩
theorem jH.turn{w w2:World}{base:Nat}{inn:Nat→Prop}{bp mb:Nat}{B:jo}{kv:Value}{sets:List (List Nat)}{next:List (List Int)}(h:jH w base inn bp mb B kv sets next)(g0:Option Nat)(hs:w.heap.size≤w2.heap.size)(hk:∀ b,b<w.heap.size→g0≠some b→w2.heap[b]?=w.heap[b]?)
  (h0:∀ g,g0=some g→g≠bp∧g≠B.tb∧g≠mb∧¬ inn g∧kv.ownBlock≠some g∧B.sv.ownBlock≠some g∧B.nv.ownBlock≠some g):jH w2 base inn bp mb B kv sets next:=by
 have hin:∀ b,inn b→b<w.heap.size→w2.heap[b]?=w.heap[b]?:=fun b hb hlt=>hk b hlt fun e=>(h0 b e).2.2.2.1 hb
 obtain⟨_,r1,_,_⟩:=h.rows
 obtain⟨_,r2,_,_⟩:=h.nexts
 refine⟨(hk bp h.box.lt fun e=>(h0 _ e).1 rfl).trans h.box,⟨(hk _ h.tab.box.lt fun e=>(h0 _ e).2.1 rfl).trans h.tab.box,h.tab.mp.same (hk mb h.tab.mp.lt fun e=>(h0 _ e).2.2.1 rfl),h.tab.own.same fun g hg=>hk g (h.tab.own.blk hg).2 fun e=>(h0 g e).2.2.2.2.1 hg,h.tab.lt⟩,
  h.rows.same hin (fun _ h=>h) fun g hg=>hk g (r1.blk hg).2 fun e=>(h0 g e).2.2.2.2.2.1 hg,h.nexts.same hin (fun _ h=>h) fun g hg=>hk g (r2.blk hg).2 fun e=>(h0 g e).2.2.2.2.2.2 hg,h.BI,fun b hb=>Nat.lt_of_lt_of_le (h.BJ b hb) hs,h.rQ,h.JZ,h.J3,h.J4,h.sn,h.lt,h.small,Nat.le_trans h.bs hs⟩
theorem jH.agX{w w7:World}{base:Nat}{inn:Nat→Prop}{bp mb:Nat}{B:jo}{kv v':Value}{sets:List (List Nat)}{next:List (List Int)}{ra:Option Addr}{rc:Nat}{row:List Int}(h:jH w base inn bp mb B kv sets next)(hrow:ak w (.slice ra row.length rc) 1 encI row)(Jg:∀ ad,ra=some ad→inn ad.block){rl:List Dv}
  (hrn:Own w base 24 1 tC B.nv rl) (hrl:rl.length=next.length) (hre:∀ i (h1:i<rl.length) (h2:i<next.length),∃ a c,rl[i]=(a,next[i].length,c)∧dU w inn (.slice a next[i].length c) encI next[i])
  (fC:Own w7 base 24 1 tC v' (rl++[(ra,row.length,rc)])) (bZ:(w.alloc (.cells #[.slice ra row.length rc] 24)).grownBy w7 B.nv.ownBlock) (nP:v'.ownBlock=B.nv.ownBlock∨v'.ownBlock=some (w.alloc (.cells #[.slice ra row.length rc] 24)).heap.size) :
  jH (w7.setCell ⟨bp,261,none⟩ v') base inn bp mb { B with nv:=v' } kv sets (next++[row])∧∀ b,b<w.heap.size→b≠bp→B.nv.ownBlock≠some b→(w7.setCell ⟨bp,261,none⟩ v').heap[b]?=w.heap[b]?:=by
 have hlt:=h.lt
 have htl:=h.tab.lt
 have s8:(w.alloc (.cells #[.slice ra row.length rc] 24)).heap.size=w.heap.size+1:=World.size_alloc _ _
 have sg:=bZ.size
 have hk:∀ b,b<w.heap.size→b≠bp→B.nv.ownBlock≠some b→(w7.setCell ⟨bp,261,none⟩ v').heap[b]?=w.heap[b]?:=fun b hb n1 n2=>by
  rw[heap_setCell_other _ _ b _ n1,bZ.block b (by omega) (fun e=>n2 e.symm)]
  exact(aj w _).block b hb
 obtain⟨r1l,r1,r1n,r1e⟩:=h.rows
 have hin:∀ b,inn b→b<w.heap.size→(w7.setCell ⟨bp,261,none⟩ v').heap[b]?=w.heap[b]?:=fun b hb hlt'=>hk b hlt' (fun e=>h.rQ.1 (e▸hb)) (fun e=>h.J4 b e hb)
 have hbx:Box w7 bp (dJ B) 226:=(h.box.alloc _).grown (hrn.kept (aj w _)) bZ hlt.1
 have hT:∀ g,B.nv.ownBlock=some g→kv.ownBlock≠some g:=fun g hg e=>by
  obtain⟨_,c1,b1⟩:=hrn.block g hg
  obtain⟨_,c2,b2⟩:=h.tab.own.block g e
  exact absurd (b1.kK b2) (by decide)
 refine⟨⟨?_,⟨(hk _ h.tab.box.lt hlt.2.1.symm fun e=>by have:=(hrn.blk e).1;omega).trans h.tab.box,h.tab.mp.same (hk mb h.tab.mp.lt hlt.2.2.symm fun e=>by have:=(hrn.blk e).1;omega),h.tab.own.same fun g hg=>hk g (h.tab.own.blk hg).2 (by have:=(h.tab.own.blk hg).1;omega) fun e=>hT g e hg,htl⟩,
  h.rows.same hin (fun _ h=>h) fun g hg=>hk g (r1.blk hg).2 (by have:=(r1.blk hg).1;omega) fun e=>h.sn g hg e,?_,h.BI,fun b hb=>by have:=h.BJ b hb;rw[World.size_setCell];omega,h.rQ,h.JZ,h.J3,?_,?_,hlt,h.small,by rw[World.size_setCell];have:=h.bs;omega⟩,hk⟩
 ·have:=hbx.set 261 v'
  rwa[Vs] at this
 ·refine pY.snoc (rows:=rl) (x:=(ra,row.length,rc)) (fC.other _ _ hlt.1) hrl (fun i p q=>?_) (l:=row) (a:=ra) (c:=rc) rfl ?_
  ·obtain⟨a,c,m1,m2⟩:=hre i p q
   exact⟨a,c,m1,m2.same hin (fun _ h=>h)⟩
  ·exact⟨hrow.Dw fun ad e hl=>hin _ (Jg ad e) hl,fun ad n' c' e=>Jg ad (Value.slice.inj e).1⟩
 ·intro g hg hi
  rcases nP with e | e
  ·exact h.J4 g (e▸hg) hi
  ·have h1:v'.ownBlock=some g:=hg
   rw[e] at h1
   cases h1
   have:=h.BJ _ hi;omega
 ·intro g hg hn
  have h1:v'.ownBlock=some g:=hn
  rcases nP with e | e
  ·exact h.sn g hg (e▸h1)
  ·rw[e] at h1
   cases h1
   have:=(r1.blk hg).2;omega
def Kq(N:Nf)(most:Nat)(low:List Nat)(base h bp mb:Nat)(B:jo)(w:World)(e:Ending)(w':World):Prop :=
 Below h w w'∧match jP N most low (most+1) 0 [gq N [0]] [] with
 | none=>e=.returned (.bool false)
 | some (sets,next)=>e=.returned (.bool true)∧∃ inn kv sv nv,jH w' base inn bp mb { B with sv:=sv,nv:=nv } kv sets next∧dU w' inn B.lo iG low∧∀ b,inn b→h≤b
def ak6(N:Nf)(most:Nat)(low:List Nat)(base h bp mb:Nat)(B:jo)(R:Option (List (List Nat)×List (List Int)))(w:World)(i:Nat)(wr:World):Prop :=
 ∃ (f:Nat) (inn:Nat→Prop) (kv sv nv:Value) (sets:List (List Nat)) (next:List (List Int)),jH wr base inn bp mb { B with sv:=sv,nv:=nv } kv sets next∧(dU wr inn B.lo iG low∧∀ b,inn b→h≤b)∧Below h w wr∧jP N most low f i sets next=R∧f+i=most+1∧sets.length≤most∧next.length=i
def anQ(N:Nf)(most:Nat)(low:List Nat)(base h bp mb:Nat)(B:jo)(nv:Value)(l:List Nat)(sets:List (List Nat))(next:List (List Int))(RR:Option (List (List Nat)×List Int))(w:World)(rb:Nat)(rv:Value)(j:Nat)(wq:World):Prop :=
 ∃ (inn:Nat→Prop) (kv sv:Value) (BH:List (List Nat)) (row:List Int),jH wq base inn bp mb { B with sv:=sv,nv:=nv } kv BH next∧(dU wq inn B.lo iG low∧∀ b,inn b→h≤b)∧Below h w wq∧sets <+: BH∧rowP N most l (low.drop j) BH row=RR∧BH.length≤most ∧
  Own wq rb 3 1 encI rv row∧row.length=j∧rb≤wq.heap.size∧∀ g,rv.ownBlock=some g→¬ inn g∧kv.ownBlock≠some g∧sv.ownBlock≠some g∧nv.ownBlock≠some g
theorem ael(N:Nf)(lb eb:Nat)(kl ke:List (Int×Value))(va:Value)(most:Nat)(low:List Nat)(base h bp mb:Nat)(B:jo)(kv:Value)(inn:Nat→Prop)(w:World)(hT:Tab w)(hM:wF w B.m lb eb kl ke va N)(hB:jH w base inn bp mb B kv [] [])(hlo:dU w inn B.lo iG low)(qI:∀ b,inn b→h≤b)
  (hst:B.st=N.states) (h0:0<N.states) (hm1:1≤most) (hm2:most≤65536) (hlow:low.length≤256) (hlow2:∀ x∈low,x<256) (hh:h≤bp∧h≤B.tb∧h≤mb∧h≤base) (hMh:∀ u,Below h w u→wF u B.m lb eb kl ke va N) (hTh:∀ u,Below h w u→Tab u) :
  Calls Tryz.prog 197 #[.pointer (some ⟨bp,0,none⟩),.int .i64 most] w (Kq N most low base h bp mb B w):=by
 have hstart:=aeg B.m lb eb kl ke va N w hT hM h0
 have hset:=GL N [0]
 have x0:w.cell? ⟨bp,0,none⟩=some (.pointer (some ⟨B.m,0,none⟩)):=(hB.box.cell 0).trans (ku B)
 have hbl:=hB.box.lt
 have hhw:h≤w.heap.size:=by omega
 obtain⟨R,hR⟩:∃ R,jP N most low (most+1) 0 [gq N [0]] []=R:=⟨_,rfl⟩
 have HS:=ah hstart;have HB:=ah hB;have HLO:=ah hlo;have HR:=ah hR;have HST:=ah hst;have RP:=ah hset;have HM:=ah hMh;have HT:=ah hTh;have PD:=ah hlow2;have YN:=ah qI
 clear qI
 clear hstart hB hlo hR hst hset hMh hTh hM hT hlow2
 go_enter Tryz.func197,Tryz.ntmps197
 go_wp2
 refine wp_scope_straight ?_
 go_wp2_with (go_at_call 241;go_must (refine HS.out.mono ?_;rintro e w2 ⟨a2,c2,rfl,ho2,hb2⟩))
 have hnum:=Pv base inn bp mb B kv [] [] (gq N [0]) a2 (gq N [0]).length c2 w2 (HB.out.kept hb2) (ho2.slice bQ) (by rw[HST.out];exact RP.out) (by simp) (HB.out.off (Nat.le_refl _) ho2)
 refine hnum.mono ?_
 rintro e w3 ⟨rfl,kv3,sv3,hB3,hK3⟩
 have hbw3:Below h w w3:=by
  obtain⟨_,r1,_,_⟩:=HB.out.rows
  refine(hb2.mono hhw).trans ⟨hK3.os,hK3.tape,hK3.output,hK3.size,fun b hb=>hK3.block b (by have:=hb2.size;omega) (by omega) (by omega) (by omega) (fun e=>?_) (fun e=>?_)⟩
  ·have:=(HB.out.tab.own.blk e).1;omega
  ·have:=(r1.blk e).1;omega
 have hlo3:dU w3 (fun b=>inn b∨∃ ad,a2=some ad∧ad.block=b) B.lo iG low:=by
  have hl2:dU w2 inn B.lo iG low:=HLO.out.same (fun b _ hlt=>hb2.block b hlt) (fun _ h=>h)
  have hB2:=HB.out.kept hb2
  refine hl2.same (fun b hb hlt=>hK3.block b hlt (fun e=>hB2.rQ.1 (e▸hb)) (fun e=>hB2.rQ.2.1 (e▸hb)) (fun e=>hB2.rQ.2.2 (e▸hb)) (fun e=>hB2.JZ b e hb) (fun e=>hB2.J3 b e hb)) (fun b hb=>.inl hb)
 have YO:∀ b,(inn b∨∃ ad,a2=some ad∧ad.block=b)→h≤b:=by
  rintro b (hb | ⟨ad,rfl,rfl⟩)
  ·exact YN.out b hb
  ·have:=(ho2.blk (g:=ad.block) rfl).1;omega
 have hn1:(dw [] (gq N [0])).2=[gq N [0]]:=rfl
 rw[hn1] at hB3
 generalize hi3:(fun b=>inn b∨∃ ad,a2=some ad∧ad.block=b)=ai7 at *
 replace YO:∀ b,ai7 b→h≤b:=fun b hb=>YO b (by rw[←hi3] at hb;exact hb)
 clear hi3
 have HB3:=ah hB3;have HL3:=ah (And.intro hlo3 YO);clear YO;have HW3:=ah hbw3
 clear hnum hB3 hK3 hbw3 hlo3 hn1 ho2 hb2
 go_wp2
 refine wp_label ?_
 go_wp2
 go_loopw [5] (fun v wr=>∃ i:Nat,v=.int .i64 i∧i≤most∧ak6 N most low base h bp mb B R w i wr) (fun v _=>most+1 - (intOf v).toNat)
 case atStart=>exact⟨0,rfl,Nat.zero_le _,most+1,ai7,kv3,sv3,B.nv,_,_,HB3.out,HL3.out,HW3.out,HR.out,rfl,hm1,rfl⟩
 case round =>
  obtain⟨i,rfl,him,f,JY,kv',sv',PV,sets,next,hB,⟨hlo,hin'⟩,hBw,hbp,hfi,hsm,hnx⟩:=hrel
  have HIN:=ah hin'
  clear hin'
  have Gh:=ah hnx
  clear hnx
  have hx:=hB.box
  obtain⟨pK,hro,hrl,hre⟩:=hB.rows
  obtain⟨sa,sc,hsv⟩:=hro.form
  dsimp only at hsv
  subst hsv
  rw[hrl] at hro
  have x5:wr.cell? ⟨bp,260,none⟩=some (.slice sa pK.length sc):=(hx.cell 260).trans (kH _)
  have F5:=hx.lt
  rw[hrl] at x5
  by_cases hlt:i<sets.length
  ·obtain⟨f,rfl⟩:∃ f',f=f'+1:=⟨f - 1,by omega⟩
   rw[PU N most low f i sets next hlt] at hbp
   obtain⟨RR,hRR⟩:∃ RR,rowP N most (sets.getD i []) low sets []=RR:=⟨_,rfl⟩
   rw[hRR] at hbp
   have hgd:sets.getD i []=sets[i]:=by rw[List.getD_eq_getElem?_getD,List.getElem?_eq_getElem hlt];rfl
   rw[hgd] at hRR
   obtain⟨la,lc,hlf⟩:∃ a c,B.lo=.slice a low.length c:=by obtain⟨a,_,_,c,hv,_⟩:=hlo.1;exact⟨a,c,hv⟩
   have x6:wr.cell? ⟨bp,258,none⟩=some (.slice la low.length lc):=((hx.cell 258).trans (vH _)).trans (congrArg some hlf)
   have hlo1:=hlo.1
   rw[hlf] at hlo1
   obtain⟨lob,loo,_,hlc,Oa,ai8,ai9⟩:=ak.bY (f:=fun x:Nat=>Value.int .u8 (x:Nat)) hlo1
   have anR:(i:Int)<(sets.length:Int):=by omega
   have WX:=ah hlf;have anS:=ah ai8;have arK:=ah ai9;have HBu:=ah hB;have anT:=ah hlo;have gG:=ah hBw;have HBP:=ah hbp;have HRR:=ah hRR;have Jb:=ah hre;have EP:=ah hro;have Gq:=ah hrl;have HFI:=ah hfi
   have hbs:=hB.bs
   clear hlf ai8 ai9 hlo1 hB hlo hBw hbp hRR hre hro hrl hgd hfi
   obtain⟨nl,hnl⟩:∃ nl,low.length=nl:=⟨_,rfl⟩
   have GH:=ah hnl
   rw[hnl] at x6 hlc hlow
   clear hnl
   go_wp2_with (refine yV rfl 24 _ _ rfl eX oD nl rfl rfl (by omega) (by simp only[maxLen];omega) wr.heap.size (Nat.le_refl _) ?_;intro w4 mM hg4;have hB4:Below wr.heap.size wr w4:=(Below.refl _ _).grown hg4 (Nat.le_refl _) (fun k hk=>by cases hk);have x7:w4.cell? ⟨bp,258,none⟩=some (.slice la nl lc):=(hB4.cell F5).trans x6)
   clear x7 hg4 x5 x6
   have TW:=HBu.out.off (Nat.le_refl _) mM
   have oK:=ah mM;have HB4:=ah hB4;have IB:=ah TW
   clear mM hB4 TW
   go_loopw [6,36] (fun v j wq=>∃ (t:Nat) ,j=.int .i64 t∧t≤nl∧anQ N most low base h bp mb B PV sets[i] sets next RR w wr.heap.size v t wq) (fun _ j _=>nl - (intOf j).toNat)
   case atStart =>
    refine⟨0,rfl,Nat.zero_le _,JY,kv',_,sets,[],HBu.out.kept HB4.out,⟨anT.out.same (fun b _ hlt=>HB4.out.block b hlt) (fun _ h=>h),HIN.out⟩,gG.out.trans (HB4.out.mono (by have:=gG.out.size;omega)),List.prefix_refl _,HRR.out,hsm,oK.out,rfl,HB4.out.size,fun g hg=>?_⟩
    obtain⟨h1,h2,h3,h4,h5,h6,h7⟩:=IB.out ⟨wr.heap.size,0,none⟩ rfl
    cases hg
    exact⟨fun hi=>absurd (HBu.out.BJ _ hi) (Nat.lt_irrefl _),h5,h6,h7⟩
   case round =>
    obtain⟨t,rfl,htn,xH,kv5,sv5,jh,row,dG,⟨TY,ajb⟩,CQ,hpre,WY,ajc,CO,aem,nO,YP⟩:=hrel
    have ajd:=ah ajb
    clear ajb
    obtain⟨ra,rc,hrv⟩:=CO.form
    subst hrv
    have hrq:row.length≤256:=by omega
    by_cases hlt2:t<nl
    ·have htl:t<low.length:=by rw[GH.out];exact hlt2
     have YQ:=TY.1
     rw[WX.out] at YQ
     obtain rfl:=anS.out t htl
     obtain⟨anU,anV,_,_,_,aje,ajf⟩:=ak.bY (f:=fun x:Nat=>Value.int .u8 (x:Nat)) YQ
     have ajg:=aje t htl
     have c0:=ajf t htl wr (Below.refl _ _)
     have hdr:low.drop t=low[t]::low.drop (t+1):=List.drop_eq_getElem_cons htl
     rw[hdr,PS] at WY
     have hc6:=PD.out _ (List.getElem_mem htl)
     generalize low[t]=c at *
     obtain⟨Ua,Oc,anW,ajh⟩:=dG.rows
     obtain⟨sa5,sc5,aji⟩:=Oc.form
     dsimp only at aji
     subst aji
     have hi5:i<jh.length:=Nat.lt_of_lt_of_le hlt hpre.length_le
     have hi6:i<Ua.length:=by omega
     have hsi:jh[i]=sets[i]:=(hpre.getElem hlt).symm
     obtain⟨ai,ci,e1,e2,_⟩:=ajh i hi6 hi5
     rw[hsi] at e1 e2
     obtain⟨Ub,WZ,_,hrc,arL,hra,hrx⟩:=ak.bY (f:=fun x:Dv=>Value.slice x.1 x.2.1 x.2.2) (Oc.slice Ar)
     obtain rfl:=hra i hi6
     have YR:=dG.BI _ (List.getElem_mem hi5)
     rw[hsi] at YR
     have anX:sets[i].length≤65536:=by
      obtain⟨S,_,e⟩:=YR
      rw[e]
      exact Nat.le_trans (OQ _ _) dG.small
     have hsp:yj B.st (iy N sets[i] c):=by rw[HST.out];exact GL N _
     have arM:=World.block_lt_of_cell? wr _ c0
     have HF:Hid (∀ u,Below wr.drew.heap.size wr.drew u→jH u base xH bp mb { B with sv:=.slice (some ⟨Ub,WZ,none⟩) Ua.length sc5,nv:=PV } kv5 jh next∧Below h w u∧ak u (.slice ai sets[i].length ci) 1 aG sets[i]∧u.cell? ⟨Ub,WZ+i,none⟩=some (.slice ai sets[i].length ci)∧dU u xH B.lo iG low):=ah fun u hl=>by
      have h1:Below wr.heap.size wr u:=(Below.refl wr.heap.size wr).drew.trans hl
      refine⟨dG.kept h1,CQ.trans (h1.mono (by have:=CQ.size;omega)),e2.kept h1,?_,TY.same (fun b _ hlt=>h1.block b hlt) (fun _ h=>h)⟩
      have:=hrx i hi6 u h1
      rw[e1] at this
      exact this
     have hti:(i:Int)<(Ua.length:Int):=by omega
     have hi0:(0:Int)≤(i:Int):=by omega
     have arN:(t:Int)<(nl:Int):=by omega
     have ht0:(0:Int)≤(t:Int):=by omega
     have HRP:=ah WY;have anY:=ah hpre;have anZ:=ah CO;have an0:=ah aem;have ajk:=ah YP;have nG:=ah dG;have arO:=ah CQ
     have hinj:=Option.some.inj ajg
     obtain⟨rfl,rfl⟩:lob=anU∧loo=anV:=by
      have h1:=congrArg Addr.block hinj
      have h2:=congrArg Addr.off hinj
      exact⟨h1,h2⟩
     clear WY hpre CO aem YP dG CQ TY YQ aje ajf ajg hdr anW ajh Oc hsi e1 e2 hra hrx YR hinj
     go_wp2_with fail
     refine jq (R:=Later) [15,17] (by kernel_rfl) ?_
     refine pl [0,1,2,3,4] ?_
     repeat
      refine qV ?_ rfl (fun w1=>?_) ?_
      rotate_left
      ·go_simp;try with_reducible rfl
      simp only[eA,eB,eC,Act.put,eD,eE,eF]
     refine dI ?_
     refine EJ 5 ?_ rfl (fun w1 hl=>?_) ?_
     rotate_left
     ·obtain⟨hX,_,_,hcl,_⟩:=HF.out w1 hl;have y0:w1.cell? ⟨bp,0,none⟩=some (.pointer (some ⟨B.m,0,none⟩)):=(hX.box.cell 0).trans (ku _);have y5:w1.cell? ⟨bp,260,none⟩=some (.slice (some ⟨Ub,WZ,none⟩) Ua.length sc5):=(hX.box.cell 260).trans (kH _);go_simp;try with_reducible rfl
     simp only[eA,eB,eC,Act.put,eD,eE,eF]
     refine pl [6,7,8] ?_
     repeat
      refine qV ?_ rfl (fun w1=>?_) ?_
      rotate_left
      ·go_simp;try with_reducible rfl
      simp only[eA,eB,eC,Act.put,eD,eE,eF]
     refine dI ?_
     refine EJ 9 ?_ rfl (fun w1 hl=>?_) ?_
     rotate_left
     ·obtain⟨hX,_,_,hcl,_⟩:=HF.out w1 hl;have y0:w1.cell? ⟨bp,0,none⟩=some (.pointer (some ⟨B.m,0,none⟩)):=(hX.box.cell 0).trans (ku _);have y5:w1.cell? ⟨bp,260,none⟩=some (.slice (some ⟨Ub,WZ,none⟩) Ua.length sc5):=(hX.box.cell 260).trans (kH _);go_simp;try with_reducible rfl
     simp only[eA,eB,eC,Act.put,eD,eE,eF]
     refine pl [10,11] ?_
     repeat
      refine qV ?_ rfl (fun w1=>?_) ?_
      rotate_left
      ·go_simp;try with_reducible rfl
      simp only[eA,eB,eC,Act.put,eD,eE,eF]
     refine dI ?_
     refine EJ 12 ?_ rfl (fun w1 hl=>?_) ?_
     rotate_left
     ·obtain⟨hX,_,_,hcl,_⟩:=HF.out w1 hl;have y0:w1.cell? ⟨bp,0,none⟩=some (.pointer (some ⟨B.m,0,none⟩)):=(hX.box.cell 0).trans (ku _);have y5:w1.cell? ⟨bp,260,none⟩=some (.slice (some ⟨Ub,WZ,none⟩) Ua.length sc5):=(hX.box.cell 260).trans (kH _);go_simp;try with_reducible rfl
     simp only[eA,eB,eC,Act.put,eD,eE,eF]
     refine QK 13 ?_ rfl (fun w1=>?_) ?_
     rotate_left
     ·go_simp;try with_reducible rfl
     simp only[eA,eB,eC,Act.put,eD,eE,eF]
     refine fH (T:=[15,17]) (i:=14) (by kernel_rfl) rfl (fun w1 hl K hK=>?_)
     obtain⟨hX,hBw1,hsl1,_,hlo1⟩:=HF.out w1 hl
     have aen:=anZ.out.kept ((Below.refl wr.heap.size wr).drew.trans hl)
     have nO:=Nat.le_trans nO hl.size
     have hstp:=agV B.m lb eb kl ke va N ai sets[i].length ci sets[i] c w1 (HT.out w1 hBw1) (HM.out w1 hBw1) hsl1 anX hc6
     clear hl
     go_simp
     refine hstp.mono ?_
     rintro e w5 ⟨a5,c5,rfl,iQ,hb5⟩
     refine hK.out _ _ (fun _=>hb5) ?_
     clear hK K hstp
     have aeo:=hX.off (Nat.le_refl _) iQ
     have nO:=Nat.le_trans nO hb5.size
     have Dk:=hX.kept hb5
     have ajl:=aen.kept hb5
     have ajm:dU w5 xH B.lo iG low:=hlo1.same (fun b _ hlt=>hb5.block b hlt) (fun _ h=>h)
     have Kr:=hBw1.trans (hb5.mono (by have:=hBw1.size;omega))
     have ajn:∀ b,(xH b∨∃ ad,a5=some ad∧ad.block=b)→h≤b:=by
      rintro b (hb | ⟨ad,rfl,rfl⟩)
      ·exact ajd.out b hb
      ·have h1:=(iQ.blk (g:=ad.block) rfl).1;have h2:=hBw1.size;omega
     have aep:=ah ajn
     clear ajn
     have TW:∀ ad,a5=some ad→∀ g,(Value.slice ra row.length rc).ownBlock=some g→g≠ad.block:=fun ad ha g hg=>by
      subst ha
      have h1:=(iQ.blk (g:=ad.block) rfl).1
      have h2:=(aen.blk hg).2
      omega
     clear hX hBw1 hsl1 hlo1 aen hb5
     refine fH (T:=[15,17]) (i:=15) (by kernel_rfl) rfl (fun w1 hl K hK=>?_)
     have vM:=Dk.kept hl
     have wo:=iQ.kept hl
     have YS:=ajl.kept hl
     have Uc:dU w1 xH B.lo iG low:=ajm.same (fun b _ hlt=>hl.block b hlt) (fun _ h=>h)
     have AA:=Kr.trans (hl.mono (by have:=Kr.size;omega))
     have ak7:=fun ad ha=>(aeo ad ha)
     have YT:=hl.size
     have nO:=Nat.le_trans nO YT
     clear hl Dk iQ ajl ajm Kr
     have hnum:=Pv base xH bp mb { B with sv:=.slice (some ⟨Ub,WZ,none⟩) Ua.length sc5,nv:=PV } kv5 jh next (iy N sets[i] c) a5 (iy N sets[i] c).length c5 w1 vM (wo.slice bQ) hsp (by omega) (fun ad ha=>by
      obtain⟨h1,h2⟩:=aeo ad ha
      exact⟨by omega,h2⟩)
     go_simp
     refine hnum.mono ?_
     rintro e w6 ⟨rfl,kv6,sv6,ni,hK6⟩
     refine hK.out _ _ (fun h=>absurd h (by decide)) ?_
     clear hK K hnum
     have abI:∀ g,(Value.slice ra row.length rc).ownBlock=some g→w6.heap[g]?=w1.heap[g]?:=fun g hg=>by
      obtain⟨n1,n2,n3,n4⟩:=ajk.out g hg
      have hgb:=YS.blk hg
      have hl1:=vM.lt
      have hl2:=vM.tab.lt
      exact hK6.block g hgb.2 (by omega) (by omega) (by omega) n2 n3
     have ajo:=YS.same abI
     have nO:=Nat.le_trans nO hK6.size
     have Ud:dU w6 (fun b=>xH b∨∃ ad,a5=some ad∧ad.block=b) B.lo iG low :=
      Uc.same (fun b hb hlt=>hK6.block b hlt (fun e=>vM.rQ.1 (e▸hb)) (fun e=>vM.rQ.2.1 (e▸hb)) (fun e=>vM.rQ.2.2 (e▸hb)) (fun e=>vM.JZ b e hb) (fun e=>vM.J3 b e hb)) (fun b hb=>.inl hb)
     have aer:Below h w w6:=by
      obtain⟨_,r1,_,_⟩:=vM.rows
      refine AA.trans ⟨hK6.os,hK6.tape,hK6.output,hK6.size,fun b hb=>hK6.block b (by have:=AA.size;omega) (by omega) (by show b≠B.tb;omega) (by omega) (fun e=>?_) (fun e=>?_)⟩
      ·have:=(vM.tab.own.blk e).1;omega
      ·have:=(r1.blk e).1;omega
     have Oi:∀ g,(Value.slice ra row.length rc).ownBlock=some g→g<w6.heap.size∧¬ (xH g∨∃ ad,a5=some ad∧ad.block=g)∧kv6.ownBlock≠some g∧sv6.ownBlock≠some g∧PV.ownBlock≠some g:=fun g hg=>by
      obtain⟨n1,n2,n3,n4⟩:=ajk.out g hg
      have hgb:=YS.blk hg
      refine⟨by have:=hK6.size;omega,?_,fun e=>?_,fun e=>?_,n4⟩
      ·rintro(h1 | ⟨ad,h1,h2⟩)
       ·exact n1 h1
       ·exact TW ad h1 g hg h2.symm
      ·rcases hK6.aa6 g e with h1 | h1
       ·exact n2 h1
       ·omega
      ·rcases hK6.Tf g e with h1 | h1
       ·exact n3 h1
       ·omega
     clear abI TW aeo ak7 vM wo YS Uc AA hK6 YT
     generalize hii:(fun b=>xH b∨∃ ad,a5=some ad∧ad.block=b)=CS at *
     replace aep:Hid (∀ b,CS b→h≤b):=ah fun b hb=>aep.out b (by rw[←hii] at hb;exact hb)
     have afQ:∀ g,(Value.slice ra row.length rc).ownBlock=some g→g<w6.heap.size∧¬ CS g∧kv6.ownBlock≠some g∧sv6.ownBlock≠some g∧PV.ownBlock≠some g:=fun g hg=>by rw[←hii];exact Oi g hg
     clear Oi hii
     refine fH (T:=[15,17]) (i:=16) (by kernel_rfl) rfl (fun w1 hl K hK=>?_)
     have kM:=ni.kept hl
     have afR:=ajo.kept hl
     have afS:dU w1 CS B.lo iG low:=Ud.same (fun b _ hlt=>hl.block b hlt) (fun _ h=>h)
     have YU:=aer.trans (hl.mono (by have:=aer.size;omega))
     have YT:=hl.size
     have nO:=Nat.le_trans nO YT
     clear hl ni ajo Ud aer
     go_simp
     refine hK.out _ _ (fun _=>aj _ _) ?_
     clear hK K
     have hsl:=pR oD w1 3 [(((dw jh (iy N sets[i] c)).1:Nat):Int)] (by simp[maxLen])
     have ajp:=kM.kept (aj w1 (.cells #[.int .i64 ((dw jh (iy N sets[i] c)).1:Nat)] 3))
     have afT:=afR.kept (aj w1 (.cells #[.int .i64 ((dw jh (iy N sets[i] c)).1:Nat)] 3))
     have afU:dU (w1.alloc (.cells #[.int .i64 ((dw jh (iy N sets[i] c)).1:Nat)] 3)) CS B.lo iG low:=afS.same (fun b _ hlt=>(aj w1 _).block b hlt) (fun _ h=>h)
     have YV:=YU.trans ((aj w1 (.cells #[.int .i64 ((dw jh (iy N sets[i] c)).1:Nat)] 3)).mono (by have:=YU.size;omega))
     change ak (w1.alloc (.cells #[.int .i64 ((dw jh (iy N sets[i] c)).1:Nat)] 3)) _ _ _ _ at hsl
     have an1:w1.heap.size+1=(w1.alloc (.cells #[.int .i64 ((dw jh (iy N sets[i] c)).1:Nat)] 3)).heap.size:=(World.size_alloc _ _).symm
     have nO:=Nat.le_trans nO (Nat.le_trans (Nat.le_succ _) (Nat.le_of_eq an1))
     clear kM afR afS YU
     generalize (w1.alloc (.cells #[.int .i64 ((dw jh (iy N sets[i] c)).1:Nat)] 3))=wq at *
     refine fH (T:=[15,17]) (i:=17) (by kernel_rfl) rfl (fun w1 hl K hK=>?_)
     have rP:=ajp.kept hl
     have QB:=afT.kept hl
     have QC:dU w1 CS B.lo iG low:=afU.same (fun b _ hlt=>hl.block b hlt) (fun _ h=>h)
     have Nb:=YV.trans (hl.mono (by have:=YV.size;omega))
     have hnw:=C9 (hsl.kept hl)
     have an2:=hl.size
     have nO:=Nat.le_trans nO an2
     clear hl ajp afT afU YV hsl
     refine dD (by rfl) ?_
     have ak8:=rP.bs
     refine nN _ _ 24 rfl eX oD rfl QB _ 1 (((dw jh (iy N sets[i] c)).1:Nat):Int) rfl hnw (by simp only[maxLen];omega) (by omega) nO ?_
     intro a' cap' w' hown' hg hfr
     refine hK.out _ _ (fun h=>absurd h (by decide)) ?_
     clear hK K hnw
     simp only[List.getElem_toArray,List.getElem_cons_zero,List.getElem_cons_succ,Act.put,List.setIfInBounds_toArray,List.set_cons_zero,List.set_cons_succ]
     change w1.grownBy w' (Value.slice ra row.length rc).ownBlock at hg
     have hrow0:∀ g,(Value.slice ra row.length rc).ownBlock=some g→g≠bp∧g≠B.tb∧g≠mb∧¬ CS g∧kv6.ownBlock≠some g∧sv6.ownBlock≠some g∧PV.ownBlock≠some g:=fun g hgg=>by
      obtain⟨n0,n1,n2,n3,n4⟩:=afQ g hgg
      have hgb:=QB.blk hgg
      have hl1:=rP.lt
      have hl2:=rP.tab.lt
      exact⟨by omega,by show g≠B.tb;have:B.tb<base:=hl2.1;omega,by omega,n1,n2,n3,n4⟩
     have ajq:=rP.turn (Value.slice ra row.length rc).ownBlock hg.size (fun b hb hn=>hg.block b hb fun e=>hn e.symm) hrow0
     have afV:dU w' CS B.lo iG low:=QC.same (fun b hb hlt=>hg.block b hlt fun e=>(hrow0 b e.symm).2.2.2.1 hb) (fun _ h=>h)
     have YW:Below h w w':=Nb.trans ⟨hg.os,hg.tape,hg.output,hg.size,fun b hb=>hg.block b (by have:=Nb.size;omega) fun e=>by have:=(QB.blk e.symm).1;omega⟩
     have afW:∀ g,(Value.slice a' (row.length+1) cap').ownBlock=some g→¬ CS g∧kv6.ownBlock≠some g∧sv6.ownBlock≠some g∧PV.ownBlock≠some g:=fun g hgg=>by
      rcases hfr with e | e
      ·rw[e] at hgg
       exact(hrow0 g hgg).2.2.2
      ·rw[e] at hgg
       cases hgg
       obtain⟨_,r1,_,_⟩:=rP.rows
       obtain⟨_,r2,_,_⟩:=rP.nexts
       exact⟨fun hi=>by have:=rP.BJ _ hi;omega,fun e=>by have:=(rP.tab.own.blk e).2;omega,fun e=>by have:=(r1.blk e).2;omega,fun e=>by have:=(r2.blk e).2;omega⟩
     have nO:=Nat.le_trans nO hg.size
     clear hrow0 hfr hg rP QB QC Nb afQ ak8
     refine QK 18 ?_ rfl (fun w1=>?_) ?_
     rotate_left
     ·go_simp;try with_reducible rfl
     simp only[eA,eB,eC,Act.put,eD,eE,eF]
     refine nK (by kernel_rfl) (fun w1 hl=>?_) _
     have Ue:=ajq.kept hl
     have afX:=hown'.kept hl
     have afY:dU w1 CS B.lo iG low:=afV.same (fun b _ hlt=>hl.block b hlt) (fun _ h=>h)
     have afZ:=YW.trans (hl.mono (by have:=YW.size;omega))
     have nO:=Nat.le_trans nO hl.size
     clear hl ajq afV YW hown'
     obtain⟨rl8,aes,aeu,_⟩:=Ue.rows
     obtain⟨sa8,sc8,ajr⟩:=aes.form
     dsimp only at ajr
     subst ajr
     rw[aeu] at aes
     have z5:w1.cell? ⟨bp,260,none⟩=some (.slice sa8 rl8.length sc8):=(Ue.box.cell 260).trans (kH _)
     rw[aeu] at z5
     have hbz:=Ue.box.lt
     have af0:=anY.out.trans (Jf jh (iy N sets[i] c))
     have Oj:=HRP.out
     have an3:=ah Ue;have ak9:=ah afX;have ala:=ah afY;have af2:=ah afZ;have alb:=ah afW;have alc:=ah af0;have HRB:=ah nO
     clear Ue afX afY afZ afW af0 nO aeu aes HF hsp
     by_cases hmo:most<(dw jh (iy N sets[i] c)).2.length
     ·rw[if_pos hmo] at Oj
      have hRN:R=none:=by
       have:=HBP.out
       rw[←Oj] at this
       exact this.symm
      have hRB:Kq N most low base h bp mb B w (.returned (.bool false)) w1:=⟨af2.out,by rw[HR.out,hRN]⟩
      have an4:=ah hRB
      have hle:decide (((dw jh (iy N sets[i] c)).2.length:Int)≤(most:Int))=false:=decide_eq_false (by omega)
      have hgt:decide ((most:Int)<((dw jh (iy N sets[i] c)).2.length:Int))=true:=decide_eq_true (by omega)
      have hlen:decide ((dw jh (iy N sets[i] c)).2.length≤most)=false:=decide_eq_false (by omega)
      have an5:decide (most<(dw jh (iy N sets[i] c)).2.length)=true:=decide_eq_true hmo
      clear Oj hRN hRB
      go_wp2
      go_ret
      exact an4.out
     ·rw[if_neg hmo] at Oj
      have hgt:decide ((most:Int)<((dw jh (iy N sets[i] c)).2.length:Int))=false:=decide_eq_false (by omega)
      have an6:=ah Oj
      have an7:(dw jh (iy N sets[i] c)).2.length≤most:=by omega
      have an8:=ah an7
      have an5:decide (most<(dw jh (iy N sets[i] c)).2.length)=false:=decide_eq_false hmo
      clear Oj
      go_wp2
      exact⟨⟨t+1,by push_cast;rfl,hlt2,CS,kv6,_,(dw jh (iy N sets[i] c)).2,_,an3.out,⟨ala.out,aep.out⟩,af2.out,alc.out,an6.out,an8.out,ak9.out,by rw[List.length_append,an0.out];rfl,HRB.out,alb.out⟩,by simp[intOf];omega⟩
    ·obtain rfl:t=nl:=by omega
     have hd:low.drop t=[]:=List.drop_of_length_le (by rw[GH.out];exact Nat.le_refl _)
     rw[hd,rowP] at WY
     have aev:=HBP.out
     rw[←WY] at aev
     obtain⟨Uf,ajt,aju,ajv⟩:=dG.nexts
     obtain⟨na9,nc9,ajw⟩:=ajt.form
     dsimp only at ajw
     subst ajw
     have z6:wr.cell? ⟨bp,261,none⟩=some (.slice na9 Uf.length nc9):=(dG.box.cell 261).trans (vJ _)
     have hbz:=dG.box.lt
     have af4:∀ ad,ra=some ad→ad.block<wr.heap.size∧ad.block≠bp∧ad.block≠B.tb∧ad.block≠mb∧kv5.ownBlock≠some ad.block∧sv5.ownBlock≠some ad.block∧(Value.slice na9 Uf.length nc9).ownBlock≠some ad.block:=by
      rintro ad rfl
      obtain⟨n1,n2,n3,n4⟩:=YP ad.block rfl
      have hgb:=CO.blk (g:=ad.block) rfl
      have hl1:=dG.lt
      have hl2:B.tb<base∧mb<base∧B.tb≠mb:=dG.tab.lt
      exact⟨hgb.2,by omega,by omega,by omega,n2,n3,n4⟩
     have an9:Hid (∀ g,(Value.slice ra row.length rc).ownBlock=some g→h≤g):=ah fun g hg=>by have h1:=(CO.blk hg).1;have h2:=gG.out.size;omega
     have jE:=dG.more (Nat.le_refl _) af4
     have Ud:dU wr (fun b=>xH b∨∃ ad,ra=some ad∧ad.block=b) B.lo iG low:=TY.same (fun _ _ _=>rfl) (fun b hb=>.inl hb)
     have af5:∀ i (h1:i<Uf.length) (h2:i<next.length),∃ a c,Uf[i]=(a,next[i].length,c)∧dU wr (fun b=>xH b∨∃ ad,ra=some ad∧ad.block=b) (.slice a next[i].length c) encI next[i]:=fun i h1 h2=>by
      obtain⟨a,c,m1,m2⟩:=ajv i h1 h2
      exact⟨a,c,m1,m2.same (fun _ _ _=>rfl) (fun b hb=>.inl hb)⟩
     have aq8:Uf.length+1≤1099511627777:=by have:=Gh.out;omega
     have arP:=dG.bs
     have HB9:=ah jE;have aoa:=ah Ud;have aob:=ah af5;have YX:=ah ajt;have aoc:=ah aju;have aod:=ah (CO.slice oD);have aoe:=ah aev;have ajx:=ah CQ;have aof:=ah ajc;have arQ:=ah hpre
     clear dG TY CQ hpre WY ajc CO YP af4 aem jE Ud ajv af5 aju aev hd
     go_wp2_with (at_builtin;go_must (refine dB rfl _ _ 23 rfl Gp Ar rfl (YX.out.kept (aj _ _)) ⟨wr.heap.size,0,none⟩ 1 (ra,row.length,rc) rfl (cu wr [.slice ra row.length rc] _) (by simp only[maxLen];omega) (by omega) (by simp only[World.size_alloc];omega) ?_;intro a7 c7 w7 fC bZ nP;have hb7:=(HB9.out.box.alloc (.cells #[.slice ra row.length rc] 24)).grown (YX.out.kept (aj _ _)) bZ HB9.out.lt.1;have q1:=(hb7.cell 261).trans (vJ _);have f1:=hb7.free 261;have FU:=hb7.lt))
     obtain⟨YZ,hk10⟩:=HB9.out.agX aod.out (fun ad e=>.inr ⟨ad,e,rfl⟩) YX.out aoc.out aob.out fC bZ nP
     have QC:dU (w7.setCell ⟨bp,261,none⟩ (.slice a7 (Uf.length+1) c7)) (fun b=>xH b∨∃ ad,ra=some ad∧ad.block=b) B.lo iG low :=
      aoa.out.same (fun b hb hlt=>hk10 b hlt (fun e=>HB9.out.rQ.1 (e▸hb)) (fun e=>HB9.out.J4 b e hb)) (fun _ h=>h)
     have ald:∀ b,(xH b∨∃ ad,ra=some ad∧ad.block=b)→h≤b:=by
      rintro b (hb | ⟨ad,rfl,rfl⟩)
      ·exact ajd.out b hb
      ·exact an9.out ad.block rfl
     have arR:=bZ.size
     have aog:(wr.alloc (.cells #[.slice ra row.length rc] 24)).heap.size=wr.heap.size+1:=World.size_alloc _ _
     have Nb:Below h w (w7.setCell ⟨bp,261,none⟩ (.slice a7 (Uf.length+1) c7)):=ajx.out.trans ⟨bZ.os,bZ.tape,bZ.output,by rw[World.size_setCell];omega,fun b hb=>hk10 b (by have:=ajx.out.size;omega) (by omega) fun e=>by have:=(YX.out.blk e).1;omega⟩
     exact⟨⟨i+1,by push_cast;rfl,by omega,f,_,kv5,sv5,_,jh,_,YZ,⟨QC,ald⟩,Nb,aoe.out,by have:=HFI.out;omega,aof.out,by rw[List.length_append,Gh.out];rfl⟩,by simp[intOf];omega⟩
  ·rw[Na N most low f i sets next hlt] at hbp
   have anR:decide ((i:Int)<(sets.length:Int))=false:=decide_eq_false (by omega)
   have hle:decide ((sets.length:Int)≤(most:Int))=true:=decide_eq_true (by omega)
   have hRB:Kq N most low base h bp mb B w (.returned (.bool true)) wr:=by
    refine⟨hBw,?_⟩
    rw[HR.out,←hbp]
    exact⟨rfl,JY,kv',_,PV,hB,hlo,HIN.out⟩
   have HRB:=ah hRB
   clear hRB hB hlo hbp hro hre hx hBw hrl
   generalize sets.length=q at *
   clear hfi
   go_wp2
   rw[Exit.noGoto_ret]
   go_ret
   exact HRB.out
end Go.Proofs.YtbemonecmmnlcaaGreatDoor
