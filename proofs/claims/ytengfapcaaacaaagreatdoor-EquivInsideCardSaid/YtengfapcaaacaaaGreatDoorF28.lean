/- The texts of E28, in few letters (mini.py). -/
import Derived.Test.YtengfapcaaacaaaGreatDoorF27
set_option linter.unusedVariables false
set_option linter.unusedSimpArgs false
set_option maxRecDepth 20000
set_option maxHeartbeats 6400000
namespace Go.Proofs.YtengfapcaaacaaaGreatDoor
open Go.RowKit
theorem Gs(N:Nf)(l:List Nat):xW N.states (gB N l):=⟨_,Fa _ _ _ _ (Jd _ _ _ (Nat.pos_of_ne_zero (by simp))),rfl⟩
theorem TR{sets:List (List Nat)}{l:List Nat}{j:Nat}(h:sets.idxOf? l=some j):dF sets l=(j,sets):=by unfold dF;rw[h]
theorem TS{sets:List (List Nat)}{l:List Nat}(h:sets.idxOf? l=none):dF sets l=(sets.length,sets++[l]):=by unfold dF;rw[h]
theorem IG(sets:List (List Nat))(l:List Nat):sets <+: (dF sets l).2:=by
 cases h:sets.idxOf? l with
 | some j=>rw[TR h];exact List.prefix_refl _
 | none=>rw[TS h];exact List.prefix_append _ _
theorem Pv(N:Nf)(most:Nat)(l:List Nat)(c:Nat)(low:List Nat)(sets:List (List Nat))(row:List Int):rowP N most l (c::low) sets row=if most<(dF sets (iK N l c)).2.length then none else rowP N most l low (dF sets (iK N l c)).2 (row++[((dF sets (iK N l c)).1:Int)]):=rfl
theorem Px(N:Nf)(most:Nat)(low:List Nat)(f i:Nat)(sets:List (List Nat))(next:List (List Int))(h:i<sets.length):kD N most low (f+1) i sets next=match rowP N most (sets.getD i []) low sets [] with
  | none=>none
  | some (Bz,row)=>kD N most low f (i+1) Bz (next++[row]):=by rw[kD,if_pos h];rfl
theorem L9(N:Nf)(most:Nat)(low:List Nat)(f i:Nat)(sets:List (List Nat))(next:List (List Int))(h:¬ i<sets.length):kD N most low f i sets next=some (sets,next):=by
 cases f with
 | zero=>rfl
 | succ f=>rw[kD,if_neg h]
theorem TT(N:Nf)(most:Nat)(l:List Nat):∀ (low:List Nat) (sets:List (List Nat)) (row:List Int) (r:List (List Nat)×List Int),rowP N most l low sets row=some r→sets <+: r.1∧(sets.length≤most→r.1.length≤most)
 | [],sets,row,r,h=>by
  rw[rowP] at h
  obtain rfl:=Option.some.inj h
  exact⟨List.prefix_refl _,id⟩
 | c::low,sets,row,r,h=>by
  rw[Pv] at h
  split at h
  ·cases h
  ·rename_i hm
   obtain⟨h1,h2⟩:=TT N most l low _ _ r h
   exact⟨(IG _ _).trans h1,fun _=>h2 (by omega)⟩
theorem jT.off{α:Type}{w w2:World}{base b0 E:Nat}{inn:Nat→Prop}{bp mb:Nat}{B:jE}{kv:Value}{sets:List (List Nat)}{next:List (List Int)}{enc:α→List Value}{a:Option Addr}{n c:Nat}{xs:List α}(h:jT w base inn bp mb B kv sets next)(hs:w.heap.size≤b0)(ho:Own w2 b0 E 1 enc (.slice a n c) xs) :
  ∀ ad,a=some ad→ad.block<w2.heap.size∧ad.block≠bp∧ad.block≠B.tb∧ad.block≠mb∧kv.ownBlock≠some ad.block∧B.sv.ownBlock≠some ad.block∧B.nv.ownBlock≠some ad.block:=by
 rintro ad rfl
 have hb:=ho.blk (g:=ad.block) rfl
 have h1:=h.box.lt
 have h2:=h.tab.box.lt
 have h3:=h.tab.mp.lt
 obtain⟨_,r1,_,_⟩:=h.rows
 obtain⟨_,r2,_,_⟩:=h.nexts
 exact⟨hb.2,by omega,by omega,by omega,fun e=>by have:=(h.tab.own.blk e).2;omega,fun e=>by have:=(r1.blk e).2;omega,fun e=>by have:=(r2.blk e).2;omega⟩
theorem jT.turn{w w2:World}{base:Nat}{inn:Nat→Prop}{bp mb:Nat}{B:jE}{kv:Value}{sets:List (List Nat)}{next:List (List Int)}(h:jT w base inn bp mb B kv sets next)(g0:Option Nat)(hs:w.heap.size≤w2.heap.size)(hk:∀ b,b<w.heap.size→g0≠some b→w2.heap[b]?=w.heap[b]?)
  (h0:∀ g,g0=some g→g≠bp∧g≠B.tb∧g≠mb∧¬ inn g∧kv.ownBlock≠some g∧B.sv.ownBlock≠some g∧B.nv.ownBlock≠some g):jT w2 base inn bp mb B kv sets next:=by
 have hin:∀ b,inn b→b<w.heap.size→w2.heap[b]?=w.heap[b]?:=fun b hb hlt=>hk b hlt fun e=>(h0 b e).2.2.2.1 hb
 obtain⟨_,r1,_,_⟩:=h.rows
 obtain⟨_,r2,_,_⟩:=h.nexts
 refine⟨(hk bp h.box.lt fun e=>(h0 _ e).1 rfl).trans h.box,⟨(hk _ h.tab.box.lt fun e=>(h0 _ e).2.1 rfl).trans h.tab.box,h.tab.mp.same (hk mb h.tab.mp.lt fun e=>(h0 _ e).2.2.1 rfl),h.tab.own.same fun g hg=>hk g (h.tab.own.blk hg).2 fun e=>(h0 g e).2.2.2.2.1 hg,h.tab.lt⟩,
  h.rows.same hin (fun _ h=>h) fun g hg=>hk g (r1.blk hg).2 fun e=>(h0 g e).2.2.2.2.2.1 hg,h.nexts.same hin (fun _ h=>h) fun g hg=>hk g (r2.blk hg).2 fun e=>(h0 g e).2.2.2.2.2.2 hg,h.BA,fun b hb=>Nat.lt_of_lt_of_le (h.BD b hb) hs,h.qX,h.Jy,h.Jz,h.JA,h.sn,h.lt,h.small,Nat.le_trans h.bs hs⟩
theorem jT.ahj{w w7:World}{base:Nat}{inn:Nat→Prop}{bp mb:Nat}{B:jE}{kv v':Value}{sets:List (List Nat)}{next:List (List Int)}{ra:Option Addr}{rc:Nat}{row:List Int}(h:jT w base inn bp mb B kv sets next)(hrow:au w (.slice ra row.length rc) 1 encI row)(II:∀ ad,ra=some ad→inn ad.block){rl:List Iu}
  (hrn:Own w base 24 1 xU B.nv rl) (hrl:rl.length=next.length) (hre:∀ i (h1:i<rl.length) (h2:i<next.length),∃ a c,rl[i]=(a,next[i].length,c)∧dV w inn (.slice a next[i].length c) encI next[i])
  (gJ:Own w7 base 24 1 xU v' (rl++[(ra,row.length,rc)])) (dn:(w.alloc (.cells #[.slice ra row.length rc] 24)).grownBy w7 B.nv.ownBlock) (oI:v'.ownBlock=B.nv.ownBlock∨v'.ownBlock=some (w.alloc (.cells #[.slice ra row.length rc] 24)).heap.size) :
  jT (w7.setCell ⟨bp,261,none⟩ v') base inn bp mb { B with nv:=v' } kv sets (next++[row])∧∀ b,b<w.heap.size→b≠bp→B.nv.ownBlock≠some b→(w7.setCell ⟨bp,261,none⟩ v').heap[b]?=w.heap[b]?:=by
 have hlt:=h.lt
 have htl:=h.tab.lt
 have s8:(w.alloc (.cells #[.slice ra row.length rc] 24)).heap.size=w.heap.size+1:=World.size_alloc _ _
 have sg:=dn.size
 have hk:∀ b,b<w.heap.size→b≠bp→B.nv.ownBlock≠some b→(w7.setCell ⟨bp,261,none⟩ v').heap[b]?=w.heap[b]?:=fun b hb n1 n2=>by
  rw[heap_setCell_other _ _ b _ n1,dn.block b (by omega) (fun e=>n2 e.symm)]
  exact(aj w _).block b hb
 obtain⟨r1l,r1,r1n,r1e⟩:=h.rows
 have hin:∀ b,inn b→b<w.heap.size→(w7.setCell ⟨bp,261,none⟩ v').heap[b]?=w.heap[b]?:=fun b hb hlt'=>hk b hlt' (fun e=>h.qX.1 (e▸hb)) (fun e=>h.JA b e hb)
 have hbx:Box w7 bp (dJ B) 187:=(h.box.alloc _).grown (hrn.kept (aj w _)) dn hlt.1
 have hT:∀ g,B.nv.ownBlock=some g→kv.ownBlock≠some g:=fun g hg e=>by
  obtain⟨_,c1,b1⟩:=hrn.block g hg
  obtain⟨_,c2,b2⟩:=h.tab.own.block g e
  exact absurd (b1.iD b2) (by decide)
 refine⟨⟨?_,⟨(hk _ h.tab.box.lt hlt.2.1.symm fun e=>by have:=(hrn.blk e).1;omega).trans h.tab.box,h.tab.mp.same (hk mb h.tab.mp.lt hlt.2.2.symm fun e=>by have:=(hrn.blk e).1;omega),h.tab.own.same fun g hg=>hk g (h.tab.own.blk hg).2 (by have:=(h.tab.own.blk hg).1;omega) fun e=>hT g e hg,htl⟩,
  h.rows.same hin (fun _ h=>h) fun g hg=>hk g (r1.blk hg).2 (by have:=(r1.blk hg).1;omega) fun e=>h.sn g hg e,?_,h.BA,fun b hb=>by have:=h.BD b hb;rw[World.size_setCell];omega,h.qX,h.Jy,h.Jz,?_,?_,hlt,h.small,by rw[World.size_setCell];have:=h.bs;omega⟩,hk⟩
 ·have:=hbx.set 261 v'
  rwa[Vs] at this
 ·refine pW.snoc (rows:=rl) (x:=(ra,row.length,rc)) (gJ.other _ _ hlt.1) hrl (fun i p q=>?_) (l:=row) (a:=ra) (c:=rc) rfl ?_
  ·obtain⟨a,c,m1,m2⟩:=hre i p q
   exact⟨a,c,m1,m2.same hin (fun _ h=>h)⟩
  ·exact⟨hrow.Gi fun ad e hl=>hin _ (II ad e) hl,fun ad n' c' e=>II ad (Value.slice.inj e).1⟩
 ·intro g hg hi
  rcases oI with e | e
  ·exact h.JA g (e▸hg) hi
  ·have h1:v'.ownBlock=some g:=hg
   rw[e] at h1
   cases h1
   have:=h.BD _ hi;omega
 ·intro g hg hn
  have h1:v'.ownBlock=some g:=hn
  rcases oI with e | e
  ·exact h.sn g hg (e▸h1)
  ·rw[e] at h1
   cases h1
   have:=(r1.blk hg).2;omega
def JH(N:Nf)(most:Nat)(low:List Nat)(base h bp mb:Nat)(B:jE)(w:World)(e:Ending)(w':World):Prop :=
 Below h w w'∧match kD N most low (most+1) 0 [gB N [0]] [] with
 | none=>e=.returned (.bool false)
 | some (sets,next)=>e=.returned (.bool true)∧∃ inn kv sv nv,jT w' base inn bp mb { B with sv:=sv,nv:=nv } kv sets next∧dV w' inn B.lo dY low∧∀ b,inn b→h≤b
def alx(N:Nf)(most:Nat)(low:List Nat)(base h bp mb:Nat)(B:jE)(R:Option (List (List Nat)×List (List Int)))(w:World)(i:Nat)(wr:World):Prop :=
 ∃ (f:Nat) (inn:Nat→Prop) (kv sv nv:Value) (sets:List (List Nat)) (next:List (List Int)),jT wr base inn bp mb { B with sv:=sv,nv:=nv } kv sets next∧(dV wr inn B.lo dY low∧∀ b,inn b→h≤b)∧Below h w wr∧kD N most low f i sets next=R∧f+i=most+1∧sets.length≤most∧next.length=i
def aoI(N:Nf)(most:Nat)(low:List Nat)(base h bp mb:Nat)(B:jE)(nv:Value)(l:List Nat)(sets:List (List Nat))(next:List (List Int))(RR:Option (List (List Nat)×List Int))(w:World)(rb:Nat)(rv:Value)(j:Nat)(wq:World):Prop :=
 ∃ (inn:Nat→Prop) (kv sv:Value) (Bz:List (List Nat)) (row:List Int),jT wq base inn bp mb { B with sv:=sv,nv:=nv } kv Bz next∧(dV wq inn B.lo dY low∧∀ b,inn b→h≤b)∧Below h w wq∧sets <+: Bz∧rowP N most l (low.drop j) Bz row=RR∧Bz.length≤most ∧
  Own wq rb 3 1 encI rv row∧row.length=j∧rb≤wq.heap.size∧∀ g,rv.ownBlock=some g→¬ inn g∧kv.ownBlock≠some g∧sv.ownBlock≠some g∧nv.ownBlock≠some g
theorem aem(N:Nf)(lb eb:Nat)(kl ke:List (Int×Value))(va:Value)(most:Nat)(low:List Nat)(base h bp mb:Nat)(B:jE)(kv:Value)(inn:Nat→Prop)(w:World)(hT:Tab w)(hM:vP w B.m lb eb kl ke va N)(hB:jT w base inn bp mb B kv [] [])(hlo:dV w inn B.lo dY low)(qy:∀ b,inn b→h≤b)
  (hst:B.st=N.states) (h0:0<N.states) (hm1:1≤most) (hm2:most≤65536) (hlow:low.length≤256) (hlow2:∀ x∈low,x<256) (hh:h≤bp∧h≤B.tb∧h≤mb∧h≤base) (hMh:∀ u,Below h w u→vP u B.m lb eb kl ke va N) (hTh:∀ u,Below h w u→Tab u) :
  Calls Tryz.prog 156 #[.pointer (some ⟨bp,0,none⟩),.int .i64 most] w (JH N most low base h bp mb B w):=by
 have hstart:=aeh B.m lb eb kl ke va N w hT hM h0
 have hset:=Gs N [0]
 have x0:w.cell? ⟨bp,0,none⟩=some (.pointer (some ⟨B.m,0,none⟩)):=(hB.box.cell 0).trans (kQ B)
 have hbl:=hB.box.lt
 have hhw:h≤w.heap.size:=by omega
 obtain⟨R,hR⟩:∃ R,kD N most low (most+1) 0 [gB N [0]] []=R:=⟨_,rfl⟩
 have HS:=ah hstart;have HB:=ah hB;have HLO:=ah hlo;have HR:=ah hR;have HST:=ah hst;have RJ:=ah hset;have HM:=ah hMh;have HT:=ah hTh;have HLW:=ah hlow2;have YW:=ah qy
 clear qy
 clear hstart hB hlo hR hst hset hMh hTh hM hT hlow2
 go_enter Tryz.func156,Tryz.ntmps156
 go_wp2
 refine wp_scope_straight ?_
 go_wp2_with (go_at_call 202;go_must (refine HS.out.mono ?_;rintro e w2 ⟨a2,c2,rfl,ho2,hb2⟩))
 have hnum:=O7 base inn bp mb B kv [] [] (gB N [0]) a2 (gB N [0]).length c2 w2 (HB.out.kept hb2) (ho2.slice iW) (by rw[HST.out];exact RJ.out) (by simp) (HB.out.off (Nat.le_refl _) ho2)
 refine hnum.mono ?_
 rintro e w3 ⟨rfl,kv3,sv3,hB3,hK3⟩
 have hbw3:Below h w w3:=by
  obtain⟨_,r1,_,_⟩:=HB.out.rows
  refine(hb2.mono hhw).trans ⟨hK3.os,hK3.tape,hK3.output,hK3.size,fun b hb=>hK3.block b (by have:=hb2.size;omega) (by omega) (by omega) (by omega) (fun e=>?_) (fun e=>?_)⟩
  ·have:=(HB.out.tab.own.blk e).1;omega
  ·have:=(r1.blk e).1;omega
 have hlo3:dV w3 (fun b=>inn b∨∃ ad,a2=some ad∧ad.block=b) B.lo dY low:=by
  have hl2:dV w2 inn B.lo dY low:=HLO.out.same (fun b _ hlt=>hb2.block b hlt) (fun _ h=>h)
  have hB2:=HB.out.kept hb2
  refine hl2.same (fun b hb hlt=>hK3.block b hlt (fun e=>hB2.qX.1 (e▸hb)) (fun e=>hB2.qX.2.1 (e▸hb)) (fun e=>hB2.qX.2.2 (e▸hb)) (fun e=>hB2.Jy b e hb) (fun e=>hB2.Jz b e hb)) (fun b hb=>.inl hb)
 have YX:∀ b,(inn b∨∃ ad,a2=some ad∧ad.block=b)→h≤b:=by
  rintro b (hb | ⟨ad,rfl,rfl⟩)
  ·exact YW.out b hb
  ·have:=(ho2.blk (g:=ad.block) rfl).1;omega
 have hn1:(dF [] (gB N [0])).2=[gB N [0]]:=rfl
 rw[hn1] at hB3
 generalize hi3:(fun b=>inn b∨∃ ad,a2=some ad∧ad.block=b)=aje at *
 replace YX:∀ b,aje b→h≤b:=fun b hb=>YX b (by rw[←hi3] at hb;exact hb)
 clear hi3
 have HB3:=ah hB3;have HL3:=ah (And.intro hlo3 YX);clear YX;have HW3:=ah hbw3
 clear hnum hB3 hK3 hbw3 hlo3 hn1 ho2 hb2
 go_wp2
 refine wp_label ?_
 go_wp2
 go_loopw [5] (fun v wr=>∃ i:Nat,v=.int .i64 i∧i≤most∧alx N most low base h bp mb B R w i wr) (fun v _=>most+1 - (intOf v).toNat)
 case atStart=>exact⟨0,rfl,Nat.zero_le _,most+1,aje,kv3,sv3,B.nv,_,_,HB3.out,HL3.out,HW3.out,HR.out,rfl,hm1,rfl⟩
 case round =>
  obtain⟨i,rfl,him,f,Jw,kv',sv',Py,sets,next,hB,⟨hlo,hin'⟩,hBw,hbp,hfi,hsm,hnx⟩:=hrel
  have Pz:=ah hin'
  clear hin'
  have F8:=ah hnx
  clear hnx
  have hx:=hB.box
  obtain⟨pK,hro,hrl,hre⟩:=hB.rows
  obtain⟨sa,sc,hsv⟩:=hro.form
  dsimp only at hsv
  subst hsv
  rw[hrl] at hro
  have x5:wr.cell? ⟨bp,260,none⟩=some (.slice sa pK.length sc):=(hx.cell 260).trans (kX _)
  have FZ:=hx.lt
  rw[hrl] at x5
  by_cases hlt:i<sets.length
  ·obtain⟨f,rfl⟩:∃ f',f=f'+1:=⟨f - 1,by omega⟩
   rw[Px N most low f i sets next hlt] at hbp
   obtain⟨RR,hRR⟩:∃ RR,rowP N most (sets.getD i []) low sets []=RR:=⟨_,rfl⟩
   rw[hRR] at hbp
   have hgd:sets.getD i []=sets[i]:=by rw[List.getD_eq_getElem?_getD,List.getElem?_eq_getElem hlt];rfl
   rw[hgd] at hRR
   obtain⟨la,lc,hlf⟩:∃ a c,B.lo=.slice a low.length c:=by obtain⟨a,_,_,c,hv,_⟩:=hlo.1;exact⟨a,c,hv⟩
   have x6:wr.cell? ⟨bp,258,none⟩=some (.slice la low.length lc):=((hx.cell 258).trans (uU _)).trans (congrArg some hlf)
   have hlo1:=hlo.1
   rw[hlf] at hlo1
   obtain⟨lob,loo,_,hlc,aeg,ajf,ajg⟩:=au.bU (f:=fun x:Nat=>Value.int .u8 (x:Nat)) hlo1
   have aoJ:(i:Int)<(sets.length:Int):=by omega
   have HLF:=ah hlf;have aoK:=ah ajf;have asT:=ah ajg;have HBu:=ah hB;have TU:=ah hlo;have tq:=ah hBw;have HBP:=ah hbp;have HRR:=ah hRR;have HRE:=ah hre;have EC:=ah hro;have Td:=ah hrl;have HFI:=ah hfi
   have hbs:=hB.bs
   clear hlf ajf ajg hlo1 hB hlo hBw hbp hRR hre hro hrl hgd hfi
   obtain⟨nl,hnl⟩:∃ nl,low.length=nl:=⟨_,rfl⟩
   have Gp:=ah hnl
   rw[hnl] at x6 hlc hlow
   clear hnl
   go_wp2_with (refine yN rfl 24 _ _ rfl nJ kJ nl rfl rfl (by omega) (by simp only[maxLen];omega) wr.heap.size (Nat.le_refl _) ?_;intro w4 qF hg4;have hB4:Below wr.heap.size wr w4:=(Below.refl _ _).grown hg4 (Nat.le_refl _) (fun k hk=>by cases hk);have x7:w4.cell? ⟨bp,258,none⟩=some (.slice la nl lc):=(hB4.cell FZ).trans x6)
   clear x7 hg4 x5 x6
   have TV:=HBu.out.off (Nat.le_refl _) qF
   have Wn:=ah qF;have HB4:=ah hB4;have yR:=ah TV
   clear qF hB4 TV
   go_loopw [6,36] (fun v j wq=>∃ (t:Nat) ,j=.int .i64 t∧t≤nl∧aoI N most low base h bp mb B Py sets[i] sets next RR w wr.heap.size v t wq) (fun _ j _=>nl - (intOf j).toNat)
   case atStart =>
    refine⟨0,rfl,Nat.zero_le _,Jw,kv',_,sets,[],HBu.out.kept HB4.out,⟨TU.out.same (fun b _ hlt=>HB4.out.block b hlt) (fun _ h=>h),Pz.out⟩,tq.out.trans (HB4.out.mono (by have:=tq.out.size;omega)),List.prefix_refl _,HRR.out,hsm,Wn.out,rfl,HB4.out.size,fun g hg=>?_⟩
    obtain⟨h1,h2,h3,h4,h5,h6,h7⟩:=yR.out ⟨wr.heap.size,0,none⟩ rfl
    cases hg
    exact⟨fun hi=>absurd (HBu.out.BD _ hi) (Nat.lt_irrefl _),h5,h6,h7⟩
   case round =>
    obtain⟨t,rfl,htn,xg,kv5,sv5,jB,row,bI,⟨TW,aji⟩,vY,hpre,WU,ajj,BZ,aen,og,YZ⟩:=hrel
    have ajk:=ah aji
    clear aji
    obtain⟨ra,rc,hrv⟩:=BZ.form
    subst hrv
    have hrq:row.length≤256:=by omega
    by_cases hlt2:t<nl
    ·have htl:t<low.length:=by rw[Gp.out];exact hlt2
     have Y0:=TW.1
     rw[HLF.out] at Y0
     obtain rfl:=aoK.out t htl
     obtain⟨aoL,aoM,_,_,_,ajl,ajm⟩:=au.bU (f:=fun x:Nat=>Value.int .u8 (x:Nat)) Y0
     have ajn:=ajl t htl
     have c0:=ajm t htl wr (Below.refl _ _)
     have hdr:low.drop t=low[t]::low.drop (t+1):=List.drop_eq_getElem_cons htl
     rw[hdr,Pv] at WU
     have hc6:=HLW.out _ (List.getElem_mem htl)
     generalize low[t]=c at *
     obtain⟨TY,ND,aoN,ajo⟩:=bI.rows
     obtain⟨sa5,sc5,ajp⟩:=ND.form
     dsimp only at ajp
     subst ajp
     have hi5:i<jB.length:=Nat.lt_of_lt_of_le hlt hpre.length_le
     have hi6:i<TY.length:=by omega
     have hsi:jB[i]=sets[i]:=(hpre.getElem hlt).symm
     obtain⟨ai,ci,e1,e2,_⟩:=ajo i hi6 hi5
     rw[hsi] at e1 e2
     obtain⟨WV,WW,_,hrc,asU,hra,hrx⟩:=au.bU (f:=fun x:Iu=>Value.slice x.1 x.2.1 x.2.2) (ND.slice Ec)
     obtain rfl:=hra i hi6
     have Y1:=bI.BA _ (List.getElem_mem hi5)
     rw[hsi] at Y1
     have aoO:sets[i].length≤65536:=by
      obtain⟨S,_,e⟩:=Y1
      rw[e]
      exact Nat.le_trans (Oq _ _) bI.small
     have hsp:xW B.st (iK N sets[i] c):=by rw[HST.out];exact Gs N _
     have asV:=World.block_lt_of_cell? wr _ c0
     have HF:Hid (∀ u,Below wr.drew.heap.size wr.drew u→jT u base xg bp mb { B with sv:=.slice (some ⟨WV,WW,none⟩) TY.length sc5,nv:=Py } kv5 jB next∧Below h w u∧au u (.slice ai sets[i].length ci) 1 bG sets[i]∧u.cell? ⟨WV,WW+i,none⟩=some (.slice ai sets[i].length ci)∧dV u xg B.lo dY low):=ah fun u hl=>by
      have h1:Below wr.heap.size wr u:=(Below.refl wr.heap.size wr).drew.trans hl
      refine⟨bI.kept h1,vY.trans (h1.mono (by have:=vY.size;omega)),e2.kept h1,?_,TW.same (fun b _ hlt=>h1.block b hlt) (fun _ h=>h)⟩
      have:=hrx i hi6 u h1
      rw[e1] at this
      exact this
     have hti:(i:Int)<(TY.length:Int):=by omega
     have hi0:(0:Int)≤(i:Int):=by omega
     have asW:(t:Int)<(nl:Int):=by omega
     have ht0:(0:Int)≤(t:Int):=by omega
     have HRP:=ah WU;have aeo:=ah hpre;have aoP:=ah BZ;have aoQ:=ah aen;have ajr:=ah YZ;have Mc:=ah bI;have asX:=ah vY
     have hinj:=Option.some.inj ajn
     obtain⟨rfl,rfl⟩:lob=aoL∧loo=aoM:=by
      have h1:=congrArg Addr.block hinj
      have h2:=congrArg Addr.off hinj
      exact⟨h1,h2⟩
     clear WU hpre BZ aen YZ bI vY TW Y0 ajl ajm ajn hdr aoN ajo ND hsi e1 e2 hra hrx Y1 hinj
     go_wp2_with fail
     refine jG (R:=Later) [15,17] (by kernel_rfl) ?_
     refine pl [0,1,2,3,4] ?_
     repeat
      refine uN ?_ rfl (fun w1=>?_) ?_
      rotate_left
      ·go_simp;try with_reducible rfl
      simp only[eA,eB,eC,Act.put,eD,eE,eF]
     refine bV ?_
     refine CJ 5 ?_ rfl (fun w1 hl=>?_) ?_
     rotate_left
     ·obtain⟨hX,_,_,hcl,_⟩:=HF.out w1 hl;have y0:w1.cell? ⟨bp,0,none⟩=some (.pointer (some ⟨B.m,0,none⟩)):=(hX.box.cell 0).trans (kQ _);have y5:w1.cell? ⟨bp,260,none⟩=some (.slice (some ⟨WV,WW,none⟩) TY.length sc5):=(hX.box.cell 260).trans (kX _);go_simp;try with_reducible rfl
     simp only[eA,eB,eC,Act.put,eD,eE,eF]
     refine pl [6,7,8] ?_
     repeat
      refine uN ?_ rfl (fun w1=>?_) ?_
      rotate_left
      ·go_simp;try with_reducible rfl
      simp only[eA,eB,eC,Act.put,eD,eE,eF]
     refine bV ?_
     refine CJ 9 ?_ rfl (fun w1 hl=>?_) ?_
     rotate_left
     ·obtain⟨hX,_,_,hcl,_⟩:=HF.out w1 hl;have y0:w1.cell? ⟨bp,0,none⟩=some (.pointer (some ⟨B.m,0,none⟩)):=(hX.box.cell 0).trans (kQ _);have y5:w1.cell? ⟨bp,260,none⟩=some (.slice (some ⟨WV,WW,none⟩) TY.length sc5):=(hX.box.cell 260).trans (kX _);go_simp;try with_reducible rfl
     simp only[eA,eB,eC,Act.put,eD,eE,eF]
     refine pl [10,11] ?_
     repeat
      refine uN ?_ rfl (fun w1=>?_) ?_
      rotate_left
      ·go_simp;try with_reducible rfl
      simp only[eA,eB,eC,Act.put,eD,eE,eF]
     refine bV ?_
     refine CJ 12 ?_ rfl (fun w1 hl=>?_) ?_
     rotate_left
     ·obtain⟨hX,_,_,hcl,_⟩:=HF.out w1 hl;have y0:w1.cell? ⟨bp,0,none⟩=some (.pointer (some ⟨B.m,0,none⟩)):=(hX.box.cell 0).trans (kQ _);have y5:w1.cell? ⟨bp,260,none⟩=some (.slice (some ⟨WV,WW,none⟩) TY.length sc5):=(hX.box.cell 260).trans (kX _);go_simp;try with_reducible rfl
     simp only[eA,eB,eC,Act.put,eD,eE,eF]
     refine EY 13 ?_ rfl (fun w1=>?_) ?_
     rotate_left
     ·go_simp;try with_reducible rfl
     simp only[eA,eB,eC,Act.put,eD,eE,eF]
     refine eP (T:=[15,17]) (i:=14) (by kernel_rfl) rfl (fun w1 hl K hK=>?_)
     obtain⟨hX,hBw1,hsl1,_,hlo1⟩:=HF.out w1 hl
     have aep:=aoP.out.kept ((Below.refl wr.heap.size wr).drew.trans hl)
     have og:=Nat.le_trans og hl.size
     have hstp:=ahh B.m lb eb kl ke va N ai sets[i].length ci sets[i] c w1 (HT.out w1 hBw1) (HM.out w1 hBw1) hsl1 aoO hc6
     clear hl
     go_simp
     refine hstp.mono ?_
     rintro e w5 ⟨a5,c5,rfl,Ag,hb5⟩
     refine hK.out _ _ (fun _=>hb5) ?_
     clear hK K hstp
     have aer:=hX.off (Nat.le_refl _) Ag
     have og:=Nat.le_trans og hb5.size
     have rY:=hX.kept hb5
     have ajs:=aep.kept hb5
     have ajt:dV w5 xg B.lo dY low:=hlo1.same (fun b _ hlt=>hb5.block b hlt) (fun _ h=>h)
     have yQ:=hBw1.trans (hb5.mono (by have:=hBw1.size;omega))
     have aju:∀ b,(xg b∨∃ ad,a5=some ad∧ad.block=b)→h≤b:=by
      rintro b (hb | ⟨ad,rfl,rfl⟩)
      ·exact ajk.out b hb
      ·have h1:=(Ag.blk (g:=ad.block) rfl).1;have h2:=hBw1.size;omega
     have aes:=ah aju
     clear aju
     have TV:∀ ad,a5=some ad→∀ g,(Value.slice ra row.length rc).ownBlock=some g→g≠ad.block:=fun ad ha g hg=>by
      subst ha
      have h1:=(Ag.blk (g:=ad.block) rfl).1
      have h2:=(aep.blk hg).2
      omega
     clear hX hBw1 hsl1 hlo1 aep hb5
     refine eP (T:=[15,17]) (i:=15) (by kernel_rfl) rfl (fun w1 hl K hK=>?_)
     have oZ:=rY.kept hl
     have Eu:=Ag.kept hl
     have Y2:=ajs.kept hl
     have Ua:dV w1 xg B.lo dY low:=ajt.same (fun b _ hlt=>hl.block b hlt) (fun _ h=>h)
     have Ai:=yQ.trans (hl.mono (by have:=yQ.size;omega))
     have aly:=fun ad ha=>(aer ad ha)
     have Y4:=hl.size
     have og:=Nat.le_trans og Y4
     clear hl rY Ag ajs ajt yQ
     have hnum:=O7 base xg bp mb { B with sv:=.slice (some ⟨WV,WW,none⟩) TY.length sc5,nv:=Py } kv5 jB next (iK N sets[i] c) a5 (iK N sets[i] c).length c5 w1 oZ (Eu.slice iW) hsp (by omega) (fun ad ha=>by
      obtain⟨h1,h2⟩:=aer ad ha
      exact⟨by omega,h2⟩)
     go_simp
     refine hnum.mono ?_
     rintro e w6 ⟨rfl,kv6,sv6,fF,hK6⟩
     refine hK.out _ _ (fun h=>absurd h (by decide)) ?_
     clear hK K hnum
     have abS:∀ g,(Value.slice ra row.length rc).ownBlock=some g→w6.heap[g]?=w1.heap[g]?:=fun g hg=>by
      obtain⟨n1,n2,n3,n4⟩:=ajr.out g hg
      have hgb:=Y2.blk hg
      have hl1:=oZ.lt
      have hl2:=oZ.tab.lt
      exact hK6.block g hgb.2 (by omega) (by omega) (by omega) n2 n3
     have ajv:=Y2.same abS
     have og:=Nat.le_trans og hK6.size
     have Ub:dV w6 (fun b=>xg b∨∃ ad,a5=some ad∧ad.block=b) B.lo dY low :=
      Ua.same (fun b hb hlt=>hK6.block b hlt (fun e=>oZ.qX.1 (e▸hb)) (fun e=>oZ.qX.2.1 (e▸hb)) (fun e=>oZ.qX.2.2 (e▸hb)) (fun e=>oZ.Jy b e hb) (fun e=>oZ.Jz b e hb)) (fun b hb=>.inl hb)
     have aeu:Below h w w6:=by
      obtain⟨_,r1,_,_⟩:=oZ.rows
      refine Ai.trans ⟨hK6.os,hK6.tape,hK6.output,hK6.size,fun b hb=>hK6.block b (by have:=Ai.size;omega) (by omega) (by show b≠B.tb;omega) (by omega) (fun e=>?_) (fun e=>?_)⟩
      ·have:=(oZ.tab.own.blk e).1;omega
      ·have:=(r1.blk e).1;omega
     have ajw:∀ g,(Value.slice ra row.length rc).ownBlock=some g→g<w6.heap.size∧¬ (xg g∨∃ ad,a5=some ad∧ad.block=g)∧kv6.ownBlock≠some g∧sv6.ownBlock≠some g∧Py.ownBlock≠some g:=fun g hg=>by
      obtain⟨n1,n2,n3,n4⟩:=ajr.out g hg
      have hgb:=Y2.blk hg
      refine⟨by have:=hK6.size;omega,?_,fun e=>?_,fun e=>?_,n4⟩
      ·rintro(h1 | ⟨ad,h1,h2⟩)
       ·exact n1 h1
       ·exact TV ad h1 g hg h2.symm
      ·rcases hK6.abo g e with h1 | h1
       ·exact n2 h1
       ·omega
      ·rcases hK6.S9 g e with h1 | h1
       ·exact n3 h1
       ·omega
     clear abS TV aer aly oZ Eu Y2 Ua Ai hK6 Y4
     generalize hii:(fun b=>xg b∨∃ ad,a5=some ad∧ad.block=b)=Cc at *
     replace aes:Hid (∀ b,Cc b→h≤b):=ah fun b hb=>aes.out b (by rw[←hii] at hb;exact hb)
     have afZ:∀ g,(Value.slice ra row.length rc).ownBlock=some g→g<w6.heap.size∧¬ Cc g∧kv6.ownBlock≠some g∧sv6.ownBlock≠some g∧Py.ownBlock≠some g:=fun g hg=>by rw[←hii];exact ajw g hg
     clear ajw hii
     refine eP (T:=[15,17]) (i:=16) (by kernel_rfl) rfl (fun w1 hl K hK=>?_)
     have iH:=fF.kept hl
     have af0:=ajv.kept hl
     have af2:dV w1 Cc B.lo dY low:=Ub.same (fun b _ hlt=>hl.block b hlt) (fun _ h=>h)
     have Y5:=aeu.trans (hl.mono (by have:=aeu.size;omega))
     have Y4:=hl.size
     have og:=Nat.le_trans og Y4
     clear hl fF ajv Ub aeu
     go_simp
     refine hK.out _ _ (fun _=>aj _ _) ?_
     clear hK K
     have hsl:=oz kJ w1 3 [(((dF jB (iK N sets[i] c)).1:Nat):Int)] (by simp[maxLen])
     have NJ:=iH.kept (aj w1 (.cells #[.int .i64 ((dF jB (iK N sets[i] c)).1:Nat)] 3))
     have af4:=af0.kept (aj w1 (.cells #[.int .i64 ((dF jB (iK N sets[i] c)).1:Nat)] 3))
     have af5:dV (w1.alloc (.cells #[.int .i64 ((dF jB (iK N sets[i] c)).1:Nat)] 3)) Cc B.lo dY low:=af2.same (fun b _ hlt=>(aj w1 _).block b hlt) (fun _ h=>h)
     have Y6:=Y5.trans ((aj w1 (.cells #[.int .i64 ((dF jB (iK N sets[i] c)).1:Nat)] 3)).mono (by have:=Y5.size;omega))
     change au (w1.alloc (.cells #[.int .i64 ((dF jB (iK N sets[i] c)).1:Nat)] 3)) _ _ _ _ at hsl
     have aoR:w1.heap.size+1=(w1.alloc (.cells #[.int .i64 ((dF jB (iK N sets[i] c)).1:Nat)] 3)).heap.size:=(World.size_alloc _ _).symm
     have og:=Nat.le_trans og (Nat.le_trans (Nat.le_succ _) (Nat.le_of_eq aoR))
     clear iH af0 af2 Y5
     generalize (w1.alloc (.cells #[.int .i64 ((dF jB (iK N sets[i] c)).1:Nat)] 3))=wq at *
     refine eP (T:=[15,17]) (i:=17) (by kernel_rfl) rfl (fun w1 hl K hK=>?_)
     have Ef:=NJ.kept hl
     have Qw:=af4.kept hl
     have Qx:dV w1 Cc B.lo dY low:=af5.same (fun b _ hlt=>hl.block b hlt) (fun _ h=>h)
     have Md:=Y6.trans (hl.mono (by have:=Y6.size;omega))
     have hnw:=CV (hsl.kept hl)
     have aoS:=hl.size
     have og:=Nat.le_trans og aoS
     clear hl NJ af4 af5 Y6 hsl
     refine eY (by rfl) ?_
     have alz:=Ef.bs
     refine nX _ _ 24 rfl nJ kJ rfl Qw _ 1 (((dF jB (iK N sets[i] c)).1:Nat):Int) rfl hnw (by simp only[maxLen];omega) (by omega) og ?_
     intro a' cap' w' hown' hg hfr
     refine hK.out _ _ (fun h=>absurd h (by decide)) ?_
     clear hK K hnw
     simp only[List.getElem_toArray,List.getElem_cons_zero,List.getElem_cons_succ,Act.put,List.setIfInBounds_toArray,List.set_cons_zero,List.set_cons_succ]
     change w1.grownBy w' (Value.slice ra row.length rc).ownBlock at hg
     have hrow0:∀ g,(Value.slice ra row.length rc).ownBlock=some g→g≠bp∧g≠B.tb∧g≠mb∧¬ Cc g∧kv6.ownBlock≠some g∧sv6.ownBlock≠some g∧Py.ownBlock≠some g:=fun g hgg=>by
      obtain⟨n0,n1,n2,n3,n4⟩:=afZ g hgg
      have hgb:=Qw.blk hgg
      have hl1:=Ef.lt
      have hl2:=Ef.tab.lt
      exact⟨by omega,by show g≠B.tb;have:B.tb<base:=hl2.1;omega,by omega,n1,n2,n3,n4⟩
     have ajx:=Ef.turn (Value.slice ra row.length rc).ownBlock hg.size (fun b hb hn=>hg.block b hb fun e=>hn e.symm) hrow0
     have af6:dV w' Cc B.lo dY low:=Qx.same (fun b hb hlt=>hg.block b hlt fun e=>(hrow0 b e.symm).2.2.2.1 hb) (fun _ h=>h)
     have Y7:Below h w w':=Md.trans ⟨hg.os,hg.tape,hg.output,hg.size,fun b hb=>hg.block b (by have:=Md.size;omega) fun e=>by have:=(Qw.blk e.symm).1;omega⟩
     have af7:∀ g,(Value.slice a' (row.length+1) cap').ownBlock=some g→¬ Cc g∧kv6.ownBlock≠some g∧sv6.ownBlock≠some g∧Py.ownBlock≠some g:=fun g hgg=>by
      rcases hfr with e | e
      ·rw[e] at hgg
       exact(hrow0 g hgg).2.2.2
      ·rw[e] at hgg
       cases hgg
       obtain⟨_,r1,_,_⟩:=Ef.rows
       obtain⟨_,r2,_,_⟩:=Ef.nexts
       exact⟨fun hi=>by have:=Ef.BD _ hi;omega,fun e=>by have:=(Ef.tab.own.blk e).2;omega,fun e=>by have:=(r1.blk e).2;omega,fun e=>by have:=(r2.blk e).2;omega⟩
     have og:=Nat.le_trans og hg.size
     clear hrow0 hfr hg Ef Qw Qx Md afZ alz
     refine EY 18 ?_ rfl (fun w1=>?_) ?_
     rotate_left
     ·go_simp;try with_reducible rfl
     simp only[eA,eB,eC,Act.put,eD,eE,eF]
     refine nU (by kernel_rfl) (fun w1 hl=>?_) _
     have Uc:=ajx.kept hl
     have af8:=hown'.kept hl
     have af9:dV w1 Cc B.lo dY low:=af6.same (fun b _ hlt=>hl.block b hlt) (fun _ h=>h)
     have aga:=Y7.trans (hl.mono (by have:=Y7.size;omega))
     have og:=Nat.le_trans og hl.size
     clear hl ajx af6 Y7 hown'
     obtain⟨rl8,aev,aew,_⟩:=Uc.rows
     obtain⟨sa8,sc8,ajy⟩:=aev.form
     dsimp only at ajy
     subst ajy
     rw[aew] at aev
     have z5:w1.cell? ⟨bp,260,none⟩=some (.slice sa8 rl8.length sc8):=(Uc.box.cell 260).trans (kX _)
     rw[aew] at z5
     have hbz:=Uc.box.lt
     have agb:=aeo.out.trans (IG jB (iK N sets[i] c))
     have NK:=HRP.out
     have aoT:=ah Uc;have alA:=ah af8;have alB:=ah af9;have agc:=ah aga;have alC:=ah af7;have alD:=ah agb;have kE:=ah og
     clear Uc af8 af9 aga af7 agb og aew aev HF hsp
     by_cases hmo:most<(dF jB (iK N sets[i] c)).2.length
     ·rw[if_pos hmo] at NK
      have hRN:R=none:=by
       have:=HBP.out
       rw[←NK] at this
       exact this.symm
      have hRB:JH N most low base h bp mb B w (.returned (.bool false)) w1:=⟨agc.out,by rw[HR.out,hRN]⟩
      have aoU:=ah hRB
      have hle:decide (((dF jB (iK N sets[i] c)).2.length:Int)≤(most:Int))=false:=decide_eq_false (by omega)
      have hgt:decide ((most:Int)<((dF jB (iK N sets[i] c)).2.length:Int))=true:=decide_eq_true (by omega)
      have hlen:decide ((dF jB (iK N sets[i] c)).2.length≤most)=false:=decide_eq_false (by omega)
      have aoV:decide (most<(dF jB (iK N sets[i] c)).2.length)=true:=decide_eq_true hmo
      clear NK hRN hRB
      go_wp2
      go_ret
      exact aoU.out
     ·rw[if_neg hmo] at NK
      have hgt:decide ((most:Int)<((dF jB (iK N sets[i] c)).2.length:Int))=false:=decide_eq_false (by omega)
      have aoW:=ah NK
      have aoX:(dF jB (iK N sets[i] c)).2.length≤most:=by omega
      have aoY:=ah aoX
      have aoV:decide (most<(dF jB (iK N sets[i] c)).2.length)=false:=decide_eq_false hmo
      clear NK
      go_wp2
      exact⟨⟨t+1,by push_cast;rfl,hlt2,Cc,kv6,_,(dF jB (iK N sets[i] c)).2,_,aoT.out,⟨alB.out,aes.out⟩,agc.out,alD.out,aoW.out,aoY.out,alA.out,by rw[List.length_append,aoQ.out];rfl,kE.out,alC.out⟩,by simp[intOf];omega⟩
    ·obtain rfl:t=nl:=by omega
     have hd:low.drop t=[]:=List.drop_of_length_le (by rw[Gp.out];exact Nat.le_refl _)
     rw[hd,rowP] at WU
     have aex:=HBP.out
     rw[←WU] at aex
     obtain⟨Ud,ajz,ajA,ajB⟩:=bI.nexts
     obtain⟨na9,nc9,ajC⟩:=ajz.form
     dsimp only at ajC
     subst ajC
     have z6:wr.cell? ⟨bp,261,none⟩=some (.slice na9 Ud.length nc9):=(bI.box.cell 261).trans (uX _)
     have hbz:=bI.box.lt
     have agd:∀ ad,ra=some ad→ad.block<wr.heap.size∧ad.block≠bp∧ad.block≠B.tb∧ad.block≠mb∧kv5.ownBlock≠some ad.block∧sv5.ownBlock≠some ad.block∧(Value.slice na9 Ud.length nc9).ownBlock≠some ad.block:=by
      rintro ad rfl
      obtain⟨n1,n2,n3,n4⟩:=YZ ad.block rfl
      have hgb:=BZ.blk (g:=ad.block) rfl
      have hl1:=bI.lt
      have hl2:B.tb<base∧mb<base∧B.tb≠mb:=bI.tab.lt
      exact⟨hgb.2,by omega,by omega,by omega,n2,n3,n4⟩
     have aoZ:Hid (∀ g,(Value.slice ra row.length rc).ownBlock=some g→h≤g):=ah fun g hg=>by have h1:=(BZ.blk hg).1;have h2:=tq.out.size;omega
     have dw:=bI.more (Nat.le_refl _) agd
     have Ub:dV wr (fun b=>xg b∨∃ ad,ra=some ad∧ad.block=b) B.lo dY low:=TW.same (fun _ _ _=>rfl) (fun b hb=>.inl hb)
     have agf:∀ i (h1:i<Ud.length) (h2:i<next.length),∃ a c,Ud[i]=(a,next[i].length,c)∧dV wr (fun b=>xg b∨∃ ad,ra=some ad∧ad.block=b) (.slice a next[i].length c) encI next[i]:=fun i h1 h2=>by
      obtain⟨a,c,m1,m2⟩:=ajB i h1 h2
      exact⟨a,c,m1,m2.same (fun _ _ _=>rfl) (fun b hb=>.inl hb)⟩
     have aso:Ud.length+1≤1099511627777:=by have:=F8.out;omega
     have aey:=bI.bs
     have mG:=ah dw;have ao0:=ah Ub;have ao1:=ah agf;have Y8:=ah ajz;have ao2:=ah ajA;have ao3:=ah (BZ.slice kJ);have ao4:=ah aex;have ajD:=ah vY;have ao5:=ah ajj;have asY:=ah hpre
     clear bI TW vY hpre WU ajj BZ YZ agd aen dw Ub ajB agf ajA aex hd
     go_wp2_with (at_builtin;go_must (refine eX rfl _ _ 23 rfl O6 Ec rfl (Y8.out.kept (aj _ _)) ⟨wr.heap.size,0,none⟩ 1 (ra,row.length,rc) rfl (bW wr [.slice ra row.length rc] _) (by simp only[maxLen];omega) (by omega) (by simp only[World.size_alloc];omega) ?_;intro a7 c7 w7 gJ dn oI;have hb7:=(mG.out.box.alloc (.cells #[.slice ra row.length rc] 24)).grown (Y8.out.kept (aj _ _)) dn mG.out.lt.1;have q1:=(hb7.cell 261).trans (uX _);have f1:=hb7.free 261;have RX:=hb7.lt))
     obtain⟨sN,hk10⟩:=mG.out.ahj ao3.out (fun ad e=>.inr ⟨ad,e,rfl⟩) Y8.out ao2.out ao1.out gJ dn oI
     have Qx:dV (w7.setCell ⟨bp,261,none⟩ (.slice a7 (Ud.length+1) c7)) (fun b=>xg b∨∃ ad,ra=some ad∧ad.block=b) B.lo dY low :=
      ao0.out.same (fun b hb hlt=>hk10 b hlt (fun e=>mG.out.qX.1 (e▸hb)) (fun e=>mG.out.JA b e hb)) (fun _ h=>h)
     have alE:∀ b,(xg b∨∃ ad,ra=some ad∧ad.block=b)→h≤b:=by
      rintro b (hb | ⟨ad,rfl,rfl⟩)
      ·exact ajk.out b hb
      ·exact aoZ.out ad.block rfl
     have asZ:=dn.size
     have aez:(wr.alloc (.cells #[.slice ra row.length rc] 24)).heap.size=wr.heap.size+1:=World.size_alloc _ _
     have Md:Below h w (w7.setCell ⟨bp,261,none⟩ (.slice a7 (Ud.length+1) c7)):=ajD.out.trans ⟨dn.os,dn.tape,dn.output,by rw[World.size_setCell];omega,fun b hb=>hk10 b (by have:=ajD.out.size;omega) (by omega) fun e=>by have:=(Y8.out.blk e).1;omega⟩
     exact⟨⟨i+1,by push_cast;rfl,by omega,f,_,kv5,sv5,_,jB,_,sN,⟨Qx,alE⟩,Md,ao4.out,by have:=HFI.out;omega,ao5.out,by rw[List.length_append,F8.out];rfl⟩,by simp[intOf];omega⟩
  ·rw[L9 N most low f i sets next hlt] at hbp
   have aoJ:decide ((i:Int)<(sets.length:Int))=false:=decide_eq_false (by omega)
   have hle:decide ((sets.length:Int)≤(most:Int))=true:=decide_eq_true (by omega)
   have hRB:JH N most low base h bp mb B w (.returned (.bool true)) wr:=by
    refine⟨hBw,?_⟩
    rw[HR.out,←hbp]
    exact⟨rfl,Jw,kv',_,Py,hB,hlo,Pz.out⟩
   have kE:=ah hRB
   clear hRB hB hlo hbp hro hre hx hBw hrl
   generalize sets.length=q at *
   clear hfi
   go_wp2
   rw[Exit.noGoto_ret]
   go_ret
   exact kE.out
end Go.Proofs.YtengfapcaaacaaaGreatDoor
