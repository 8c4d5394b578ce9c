/- The texts of B42, in few letters (mini.py). -/
import Derived.Test.YtaoinbjjolikhaaGreatDoorM39
import Derived.Test.YtaoinbjjolikhaaGreatDoorM41
set_option linter.unusedVariables false
set_option linter.unusedSimpArgs false
set_option maxRecDepth 20000
set_option maxHeartbeats 3200000
namespace Go.Proofs.YtaoinbjjolikhaaGreatDoor
section
open Go.RowKit
theorem abR(D:aT)(t:List UInt8)(f:Nat):eG D t f t.length=([],t.length):=by
 cases f with
 | zero=>rfl
 | succ f =>
  rw[eG]
  cases h:kU D t t.length with
  | none=>rfl
  | some r=>obtain⟨k,e⟩:=r;have:=nD h;omega
theorem NM(V:aG)(D:aT)(w:World)(v:Value)(h:dS w V D)(hof:∀ b,V.of b<256)(hl:∀ x∈D.names,x.length≤9223372036854775807)(hr:fH D=false):Calls Tryz.prog 12 #[.agg V.cells,v] w (xR w [] 0 6):=by
 have hbx:=Box.new w V.cells 27
 have hB0:=aj w (.cells V.cells 27)
 have HR:=ah (fun u hu=>hr▸Dl V D u (h.kept hu) hof hl)
 clear h hl hr
 go_enter Tryz.func12,Tryz.ntmps12
 go_wp2_with (first | (refine aC (by rfl) 27 _ rfl w.heap.size rfl _ _ _ _ hbx Tryz.underlying27 rfl (aQ _) ?_) | (go_at_call 39;go_must (refine(HR.out _ hB0).mono ?_;rintro e w2 ⟨rfl,hb2⟩)))
 go_ret3
 exact⟨none,0,rfl,Own.nil _ _ _ _ _,hB0.trans (hb2.mono hB0.size)⟩
theorem UU(V:aG)(D:aT)(t:List UInt8)(ta:Option Addr)(tn tc:Nat)(w:World)(h:dS w V D)(hof:∀ b,V.of b<256)(hl:∀ x∈D.names,x.length≤9223372036854775807)(hr:fH D=true)(hT:ak w (.slice ta tn tc) 1 bQ t)(htl:t.length≤1099511627776) :
  Calls Tryz.prog 12 #[.agg V.cells,.slice ta tn tc] w (xR w (yT D t).1 (yT D t).2 0):=by
 have hbx:=Box.new w V.cells 27
 have hB0:=aj w (.cells V.cells 27)
 have HR:=ah (fun u hu=>hr▸Dl V D u (h.kept hu) hof hl)
 have HN:=ah (fun(at_:Nat) (hat:at_≤t.length) u hu=>by
  have h1:=NK V D t ta tn tc (at_:Nat) u (h.kept hu) hof hl (hT.kept hu)
  have hret:oq D t (at_:Nat)=pG D t at_:=by
   unfold oq
   rw[if_pos ⟨hr,by omega,by omega⟩,Int.toNat_natCast]
  rw[hret] at h1
  exact h1)
 obtain⟨_,_,htn,_⟩:=hT.dG (f:=fun x:UInt8=>Value.int .u8 (x.toNat:Nat))
 subst htn
 clear h hl hr hT hof
 go_enter Tryz.func12,Tryz.ntmps12
 go_wp2_with (first | (refine aC (by rfl) 27 _ rfl w.heap.size rfl _ _ _ _ hbx Tryz.underlying27 rfl (aQ _) ?_) | (go_at_call 39;go_must (refine(HR.out _ hB0).mono ?_;rintro e w2 ⟨rfl,hb2⟩)))
 have hB2:=hB0.trans (hb2.mono hB0.size)
 have hx2:=hbx.kept hb2
 have HB2:=ah hB2;have wK:=ah hx2
 obtain⟨TK,UO⟩:∃ TK,yT D t=TK:=⟨_,rfl⟩
 rw[UO]
 have vM:=ah UO
 have hs0:(w2.alloc (.cells #[] 37)).heap.size=w2.heap.size+1:=World.size_alloc _ _
 have HO0:=ah (Own.empty w2 w2.heap.size 37 3 rZ (Nat.le_refl _));have HBA:=ah (aj w2 (.cells #[] 37))
 clear hB2 hx2 hb2 hB0 hbx HR UO
 go_loopw [7,8] (fun v7 v8 wr=>∃ (f at_:Nat) (acc:List (Int×Nat×Nat)) (a:Option Addr) (c:Nat),v7=.slice a acc.length c∧v8=.int .i64 at_∧at_≤t.length∧Own wr w2.heap.size 37 3 rZ (.slice a acc.length c) acc∧Below w2.heap.size w2 wr∧acc++(eG D t f at_).1=TK.1∧(eG D t f at_).2=TK.2∧t.length+1≤f+at_) (fun _ v8 _=>t.length - (intOf v8).toNat)
 case atStart=>exact⟨t.length+1,0,[],_,0,rfl,rfl,Nat.zero_le _,HO0.out,HBA.out,by rw[List.nil_append,←vM.out];rfl,by rw[←vM.out];rfl,Nat.le_refl _⟩
 case round =>
  obtain⟨f,at_,acc,a,c,rfl,rfl,hat,hown,hB,h1,h2,hf⟩:=hrel
  have hBw:Below w.heap.size w wr:=HB2.out.trans (hB.mono HB2.out.size)
  have hx:=wK.out.kept hB
  have hal:acc.length≤t.length+1:=by
   have e1:=congrArg List.length h1
   have e2:=Hw D t (t.length+1) 0
   rw[List.length_append] at e1
   have e3:TK.1.length≤t.length+1:=by rw[←vM.out];exact e2
   omega
  by_cases hlt:at_<t.length
  ·have hnx:=HN.out at_ hat wr hBw
   obtain⟨f,rfl⟩:∃ f',f=f'+1:=⟨f - 1,by omega⟩
   rw[eG] at h1 h2
   unfold pG at hnx
   have hai:(at_:Int)<(t.length:Int):=by omega
   cases htk:kU D t at_ with
   | none =>
    rw[htk] at hnx h1 h2
    dsimp only at hnx h1 h2
    rw[List.append_nil] at h1
    have Hq:=ah hnx;have H1:=ah (And.intro h1 h2);have HO:=ah hown;have iG:=ah hBw;have Ce:=ah hB
    clear hnx h1 h2 hown hBw hB htk
    go_wp2_with (first | (refine aC (by rfl) 27 _ rfl w.heap.size rfl _ _ _ _ hx Tryz.underlying27 rfl (aQ _) ?_) | (go_at_call 15;go_must (refine Hq.out.mono ?_;rintro e w4 ⟨rfl,hb4⟩)))
    go_ret3
    obtain⟨h1,h2⟩:=H1.out
    have hB4:=Ce.out.trans (hb4.mono Ce.out.size)
    refine⟨a,c,by rw[←h1,←h2];rfl,?_,?_⟩
    ·rw[←h1];exact((HO.out.kept hb4).kept (aj _ _)).mono HB2.out.size
    ·exact(HB2.out.trans (hB4.mono HB2.out.size)).alloc (Nat.le_trans HB2.out.size hB4.size) _
   | some r =>
    obtain⟨k,e⟩:=r
    have hte:=nD htk
    rw[htk] at hnx h1 h2
    dsimp only at hnx h1 h2
    rw[show acc++(k,at_,e)::(eG D t f e).1=(acc++[(k,at_,e)])++(eG D t f e).1 by simp] at h1
    have Hq:=ah hnx;have H1:=ah (And.intro h1 h2);have HO:=ah hown;have iG:=ah hBw;have Ce:=ah hB
    obtain⟨ht1,ht2,_⟩:=hte
    clear hnx h1 h2 hown hBw hB htk
    have hpos:=Ce.out.size
    go_wp2_with (first | (refine aC (by rfl) 27 _ rfl w.heap.size rfl _ _ _ _ hx Tryz.underlying27 rfl (aQ _) ?_) | (go_at_call 15;go_must (refine Hq.out.mono ?_;rintro e4 w4 ⟨rfl,hb4⟩;have pW:=((HO.out.kept hb4).kept (aj w4 (.cells (nR k at_ e) 37))).kept (aj _ (.cells (nR k at_ e) 37));have anw:=hb4.size)) | (at_builtin;go_must (refine eU rfl _ _ 30 rfl UN yS rfl pW ⟨w4.heap.size+1,0,none⟩ 1 (k,at_,e) rfl (by rw[←World.size_alloc w4 (.cells (nR k at_ e) 37)];exact dA _ (rZ (k,at_,e)) _) (by simp only[maxLen];omega) (by omega) (by simp only[World.size_alloc];omega) ?_;intro a7 c7 w7 iF cZ;have hbk:Box w7 w4.heap.size (nR k at_ e) 37:=(cZ.block w4.heap.size (by simp only[World.size_alloc];omega) (fun e'=>by { have:=((HO.out.kept hb4).blk e'.symm).2;omega })).trans ((Box.new w4 _ _).kept (aj _ _));have y2:w7.cell? ⟨w4.heap.size,2,none⟩=some (.int .i64 e):=hbk.cell 2;have l2:=hbk.lt)))
    obtain⟨h1,h2⟩:=H1.out
    have hB4:=Ce.out.trans (hb4.mono Ce.out.size)
    have hs4:=hB4.size
    have bF:=(hB4.alloc hB4.size (.cells (nR k at_ e) 37)).alloc (by simp only[World.size_alloc];omega) (.cells (nR k at_ e) 37)
    exact⟨⟨f,e,acc++[(k,at_,e)],a7,c7,by simp,rfl,ht2,by simpa using iF,below_grown bF pW cZ (Nat.le_refl _) (by simp only[World.size_alloc];omega),h1,h2,by omega⟩,by simp[intOf];omega⟩
  ·obtain rfl:at_=t.length:=by omega
   rw[abR] at h1 h2
   rw[List.append_nil] at h1
   have H1:=ah (And.intro h1 h2);have HO:=ah hown;have iG:=ah hBw
   clear h1 h2 hown hBw hB
   go_wp2
   go_ret3
   obtain⟨h1,h2⟩:=H1.out
   rw[←vM.out] at h1 h2
   refine⟨a,c,by rw[←h1,←h2];rfl,?_,iG.out⟩
   rw[←h1];exact HO.out.mono HB2.out.size
end
section
open Go.RowKit
abbrev QN(x:Int×Int×Int):List Value:=[.int .i64 x.1,.int .i64 x.2.1,.int .i64 x.2.2]
def UW(x:Int×Nat×Nat):Int×Int×Int:=(x.1,(x.2.1:Int),(x.2.2:Int))
theorem ak.UW{w:World}{v:Value}{xs:List (Int×Nat×Nat)}(h:ak w v 3 rZ xs):ak w v 3 QN (xs.map UW):=by
 obtain⟨a,b,o,cap,rfl,hl,hc,ha,hx⟩:=h
 refine⟨a,b,o,cap,by rw[List.length_map],by rw[List.length_map];exact hl,hc,ha.imp id (fun⟨h1,h2⟩=>⟨by rw[h1];rfl,h2⟩),fun i hi j u hu=>?_⟩
 rw[List.length_map] at hi
 rw[List.getElem_map] at hu
 exact hx i hi j u hu
theorem UY{P:Nat→Value→Prop}{x:Int×Int×Int}(h:∀ j u,(QN x)[j]?=some u→P j u):P 0 (.int .i64 x.1)∧P 1 (.int .i64 x.2.1)∧P 2 (.int .i64 x.2.2):=⟨h 0 _ rfl,h 1 _ rfl,h 2 _ rfl⟩
theorem Y6(xs:List (Int×Int×Int))(a b:Option Addr)(n m c d:Nat)(w:World)(ha:ak w (.slice a n c) 3 QN xs)(hb:ak w (.slice b m d) 3 QN xs) :
  Calls Tryz.prog 13 #[.slice a n c,.slice b m d] w (aX w (.bool true)):=by
 obtain⟨ab,ao,hn,hc,hc2,haa,hax⟩:=ha.open
 obtain⟨bb,bo,hm,hd,hd2,hba,hbx⟩:=hb.open
 obtain⟨k,hk⟩:∃ k,xs.length=k:=⟨_,rfl⟩
 subst hn
 subst hm
 have HK:=ah hk;have HAA:=ah haa;have HBA:=ah hba;have HAX:=ah hax;have Cc:=ah hbx
 rw[hk] at hc hd ⊢
 clear ha hb haa hba hax hbx hk
 go_enter Tryz.func13,Tryz.ntmps13
 go_wp2
 go_loopw [5] (fun v5 wr=>∃ i:Nat,i≤k∧v5=.int .i64 i∧Below w.heap.size w wr) (fun v5 _=>k - (intOf v5).toNat)
 case atStart=>exact⟨0,Nat.zero_le _,rfl,Below.refl _ _⟩
 case round =>
  obtain⟨i,hi,rfl,hB⟩:=hrel
  by_cases hlt:i<k
  ·have hlx:i<xs.length:=by rw[HK.out];exact hlt
   obtain rfl:=HAA.out i hlx
   obtain rfl:=HBA.out i hlx
   have ca:=UY (HAX.out i hlx)
   have cb:=UY (Cc.out i hlx)
   generalize xs[i]=x at *
   obtain⟨x0,x1,x2⟩:=x
   dsimp only at ca cb
   have hii:(i:Int)<(k:Int):=by omega
   have hi0:(0:Int)≤(i:Int):=by omega
   have hDr:Below w.heap.size w wr.drew:=hB.trans ((Below.refl _ _).drew.mono hB.size)
   have HF:Hid (∀ u,Later wr.drew u→(u.cell? ⟨ab,ao+i*3,none⟩=some (.int .i64 x0)∧u.cell? ⟨ab,ao+i*3+1,none⟩=some (.int .i64 x1)∧u.cell? ⟨ab,ao+i*3+2,none⟩=some (.int .i64 x2))∧(u.cell? ⟨bb,bo+i*3,none⟩=some (.int .i64 x0)∧u.cell? ⟨bb,bo+i*3+1,none⟩=some (.int .i64 x1)∧u.cell? ⟨bb,bo+i*3+2,none⟩=some (.int .i64 x2))∧Below w.heap.size w u):=ah fun u hu=>by
    have h1:Below w.heap.size w u:=hDr.trans (hu.mono hDr.size)
    have hc:∀ {ad:Addr} {v:Value},w.cell? ad=some v→u.cell? ad=some v:=fun e=>(h1.cell (World.block_lt_of_cell? w _ e)).trans e
    exact⟨⟨hc ca.1,hc ca.2.1,hc ca.2.2⟩,⟨hc cb.1,hc cb.2.1,hc cb.2.2⟩,h1⟩
   clear ca cb hB hDr
   go_wp2_with fail
   refine aA (R:=Later) 9 (by kernel_rfl) ?_
   refine pl [0,1,2,3,4,5,6,7,8] ?_
   repeat
    refine dB ?_ rfl (fun w1 hl=>?_) ?_
    rotate_left
    ·obtain⟨⟨p0,p1,p2⟩,⟨q0,q1,q2⟩,_⟩:=HF.out w1 hl;have l1:=World.block_lt_of_cell? w1 _ p0;have l2:=World.block_lt_of_cell? w1 _ q0;go_simp;try with_reducible rfl
    simp only[eA,eB,eC,Act.put,eD,eE,eF]
   refine bP ?_
   refine aI (by kernel_rfl) (fun w1 hl=>?_) _
   have hq:=(HF.out w1 hl).2.2
   clear HF hl
   go_wp2
   exact⟨⟨i+1,hlt,by push_cast;rfl,hq⟩,by simp[intOf];omega⟩
  ·obtain rfl:i=k:=by omega
   go_wp2
   go_ret
   exact⟨rfl,hB⟩
end
end Go.Proofs.YtaoinbjjolikhaaGreatDoor
