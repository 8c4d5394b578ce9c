/- The texts of N18, in few letters (mini.py). -/
import Derived.Test.YtengfapcaaacaaaGreatDoorM17
set_option linter.unusedVariables false
set_option linter.unusedSimpArgs false
set_option maxRecDepth 20000
set_option maxHeartbeats 3200000
namespace Go.Proofs.YtengfapcaaacaaaGreatDoor
section
open Go.RowKit
theorem vO(b:Nat)(w:World)(v0 v1 v2 v3 v4 v5 v6 v7:Value):dY b w ((((((((w.setCell ⟨b,0,none⟩ v0).setCell ⟨b,1,none⟩ v1).setCell ⟨b,2,none⟩ v2).setCell ⟨b,3,none⟩ v3).setCell ⟨b,4,none⟩ v4).setCell ⟨b,5,none⟩ v5).setCell ⟨b,6,none⟩ v6).setCell ⟨b,7,none⟩ v7) :=
 have t:=fun{p q s:World}=>(jS b).trans p q s
 t (t (t (t (t (t (t (dY.set _ 0 v0) (dY.set _ 1 v1)) (dY.set _ 2 v2)) (dY.set _ 3 v3)) (dY.set _ 4 v4)) (dY.set _ 5 v5)) (dY.set _ 6 v6)) (dY.set _ 7 v7)
theorem afT(r qB n:Nat)(IH:ZL r qB n):XB r qB (n+1):=by
 intro v ov L O ans w h hr hb hO hans
 have hB0:=aj w (.cells bG 115)
 have h0:=h.kept hB0
 have hg0:=Box.new w bG 115
 have hW0:(w.alloc (.cells bG 115)).heap.size=w.heap.size+1:=by simp
 have hpk:=Ia r qB v ov L O _ h0
 have Ai:=fun g hg=>(h.ov g hg).2
 obtain⟨ao,co,hao⟩:=h.open'.form
 subst hao
 have hK0:aK r (.slice ao O.length co) w (w.alloc (.cells bG 115)):=aK.below (Nat.le_of_lt h.box.lt) hB0
 have HP:=ah hpk
 have HO:=ah Ai
 have H0:=ah h0
 clear hpk h0 Ai hB0
 cases L with
 | nil =>
  rw[uP] at hans
  obtain rfl:=Option.some.inj hans
  go_enter Tryz.func255,Tryz.ntmps255
  go_wp2_with (go_at_call 233;go_must (refine HP.out.mono ?_;rintro e w1 ⟨rfl,hb1⟩;have h1:=H0.out.kept hb1;have hz1:=hg0.kept hb1;have hs1:=hb1.size;obtain⟨x0,x1⟩:=h1.cells;have z0:=hz1.cell 0;have z1:=hz1.cell 1;have z2:=hz1.cell 2;have z3:=hz1.cell 3;have z4:=hz1.cell 4;have z5:=hz1.cell 5;have z6:=hz1.cell 6;have z7:=hz1.cell 7;obtain⟨f0,f1,f2,f3,f4,f5,f6,f7⟩:=hz1.vF))
  have yG:=vO w.heap.size w1 (.int .i64 0) (.int .u64 0) (.int .u64 0) (.int .u64 0) (.int .u64 0) (.slice none 0 0) (.int .i64 0) (.int .i64 0)
  obtain⟨EO,hKF⟩:=h1.only hr (hK0.tr (aK.below (by omega) hb1)) hb yG (fun e=>by have:=HO.out _ e;omega)
  exact fP Tryz.results255 rfl rfl (cs:=bG) (E:=115) ((((((((hz1.set 0 (.int .i64 0)).set 1 (.int .u64 0)).set 2 (.int .u64 0)).set 3 (.int .u64 0)).set 4 (.int .u64 0)).set 5 (.slice none 0 0)).set 6 (.int .i64 0)).set 7 (.int .i64 0)) Tryz.underlying115 rfl (by kernel_rfl) rfl (show NJ r qB (.slice ao O.length co) O _ w (.inr none) _ _ from⟨rfl,⟨_,EO⟩,hKF⟩)
 | cons q L =>
  have hok:=h.ok q (by simp)
  obtain⟨qk,qa,qs,ql,qh⟩:=q
  have hkv:qk=1∨qk=2∨qk=3∨qk=4∨qk=5∨qk=6∨qk=7∨qk=8:=by
   rcases hok with h | h | h
   ·exact .inl h.1
   ·have h1:2≤qk:=h.1
    have h2:qk<8:=h.2.1
    omega
   ·have h1:qk=8:=h.1
    omega
  clear hok h
  rw[pq] at hans
  have e0:∀ k:Nat,iZ (⟨k,qa,qs,ql,qh⟩::L)=k:=fun _=>rfl
  rcases hkv with rfl | rfl | rfl | rfl | rfl | rfl | rfl | rfl
  ·have fQ:some (.inr (some (.mk 3 qs [] 0 0,L)))=some ans:=(if_pos rfl).symm.trans hans
   obtain rfl:=Option.some.inj fQ
   have hnx:=fun u hu hs=>uO r qB v (.slice ao O.length co) ⟨1,qa,qs,ql,qh⟩ L O u hu hr hs
   unfold fV at hnx
   have HN:=ah hnx
   have hfl:=Xz
   rw[e0] at HP
   clear hans fQ hnx e0
   go_enter Tryz.func255,Tryz.ntmps255
   go_wp2_with (first | (go_at_call 233;go_must (refine HP.out.mono ?_;rintro e w1 ⟨rfl,hb1⟩;have h1:=H0.out.kept hb1;have hz1:=hg0.kept hb1;have hs1:=hb1.size)) | (go_at_call 234;go_must (refine(HN.out _ h1 (by omega)).mono ?_;rintro e w2 ⟨rfl,⟨v2,h2⟩,hk2⟩;have hs2:=hk2.low.size;have alV:=hk2.box hz1 (by omega) (fun e=>by have:=HO.out _ e;omega))) | (go_at_call 136;go_must (refine(KI qs _).mono ?_;rintro e w3 ⟨V,rfl,hV,hl3,qy,hb3⟩;have hz2:=alV.kept hb3;have hs3:=hb3.size)) | (refine wpList_store_row rfl 115 (.tmp 2) (.tmp _) rfl w.heap.size _ rfl rfl _ _ hz2 (bP V) (by show 8=V.cells.toArray.size;rw[List.size_toArray,Vt.bI]) V.all ?_))
   have yG:=oU (b:=w.heap.size) w3 V.cells.toArray
   have hrl:=h2.box.lt
   have hk3:=(((aK.below (ov:=.slice ao O.length co) (by omega) hb1).tr hk2).tr (aK.below (by omega) hb3))
   obtain⟨EO,hKF⟩:=(h2.kept hb3).only hr (hK0.tr hk3) hb yG (fun e=>by have:=HO.out _ e;omega)
   have ZP:dX (w3.setRow w.heap.size V.cells.toArray) r (.slice ao O.length co) w.heap.size V:=⟨hl3.eH (qy.and hl3.on) fun b hb=>yG.block b hb.2 (by have:=hb.1;omega),qy.mono fun b hb=>⟨by omega,by omega,fun e=>by have:=HO.out _ e;omega⟩⟩
   exact fP Tryz.results255 rfl rfl (cs:=V.cells.toArray) (hz2.setRow _) Tryz.underlying115 rfl (bP V) rfl (show NJ r qB (.slice ao O.length co) O _ w (.inr (some (.mk 3 qs [] 0 0,L))) _ _ from⟨V,v2,_,rfl,hV,EO,ZP,hKF,dW.refl _ _⟩)
  ·have fQ:(pJ n O.length ⟨2,qa,qs,ql,qh⟩ L).map (fun s=>s.map id some)=some ans:=(if_pos rfl).symm.trans ((if_neg (by decide:¬ (2:Nat)=1)).symm.trans hans)
   cases hA:pJ n O.length ⟨2,qa,qs,ql,qh⟩ L with
   | none=>rw[hA] at fQ;cases fQ
   | some A =>
    rw[hA] at fQ
    have hIH:=fun u hu hs=>IH v (.slice ao O.length co) ⟨2,qa,qs,ql,qh⟩ L O A u hu hr hs hO hA
    have HI:=ah hIH
    rw[e0] at HP
    clear hans hIH hA IH e0
    go_enter Tryz.func255,Tryz.ntmps255
    go_wp2_with (go_at_call 233;go_must (refine HP.out.mono ?_;rintro e w1 ⟨rfl,hb1⟩;have h1:=H0.out.kept hb1;have hz1:=hg0.kept hb1;have hs1:=hb1.size))
    refine(HI.out _ h1 (by omega)).mono ?_
    intro e w2 hres
    cases A with
    | inl p =>
     obtain⟨hl,hk2⟩:=hres
     obtain rfl:e=_:=hl
     obtain rfl:=Option.some.inj fQ
     exact⟨rfl,rfl,hK0.tr ((aK.below (by omega) hb1).tr hk2)⟩
    | inr p =>
     obtain⟨x,R⟩:=p
     obtain⟨V,v2,F6,rfl,hV,h2,ht2,hk2,hf2⟩:=hres
     obtain rfl:=Option.some.inj fQ
     have hk3:=hK0.tr ((aK.below (ov:=.slice ao O.length co) (by omega) hb1).tr hk2)
     have hz2:=hk2.box hz1 (by omega) (fun e=>by have:=HO.out _ e;omega)
     have hs2:=hk2.low.size
     go_wp2_with (refine wpList_store_row rfl 115 (.tmp 2) (.tmp _) rfl w.heap.size _ rfl rfl _ _ hz2 (bP V) (by show 8=V.cells.toArray.size;rw[List.size_toArray,Vt.bI]) V.all ?_)
     have yG:=oU (b:=w.heap.size) w2 V.cells.toArray
     have hrl:=h2.box.lt
     have alW:F6.ownBlock≠some w.heap.size:=fun e=>by
      rcases hf2 _ e with h | h
      ·have:=HO.out _ h;omega
      ·omega
     have EO:=h2.frame hr (fun b hb=>yG.block b (by rcases hb with hb | hb;omega;exact(h2.ov b hb).2) (by rintro rfl;rcases hb with hb | hb;omega;exact alW hb))
     have hKF:=yG.kept hk3 (Nat.le_refl _) (by omega) (by omega)
     have ZP:dX (w2.setRow w.heap.size V.cells.toArray) r F6 w.heap.size V:=⟨ht2.lies.eH (ht2.on.and ht2.lies.on) fun b hb=>yG.block b hb.2 (by have:=hb.1.1;omega),(ht2.mono (by omega)).on⟩
     exact fP Tryz.results255 rfl rfl (cs:=V.cells.toArray) (hz2.setRow _) Tryz.underlying115 rfl (bP V) rfl (show NJ r qB (.slice ao O.length co) O _ w (.inr (some (x,R))) _ _ from⟨V,v2,F6,rfl,hV,EO,ZP,hKF,(dW.refl _ _).trans (by omega) hf2⟩)
  ·have fQ:(if 3=3∧O.length=0 then some (.inl (12,qa)) else some (.inr none))=some ans:=by
    rw[if_neg (by decide:¬ (3:Nat)=1),if_neg (by decide:¬ (3:Nat)=2),if_neg (by decide:¬ ((3:Nat)=5∨(3:Nat)=6∨(3:Nat)=7∨(3:Nat)=8))] at hans
    exact hans
   rw[e0] at HP
   clear hans e0
   by_cases hd:O.length=0
   ·rw[if_pos ⟨rfl,hd⟩] at fQ
    obtain rfl:=Option.some.inj fQ
    have d0:((O.length:Int)==0)=true:=by rw[hd];rfl
    clear hd
    go_enter Tryz.func255,Tryz.ntmps255
    go_wp2_with (first | (go_at_call 233;go_must (refine HP.out.mono ?_;rintro e w1 ⟨rfl,hb1⟩;have h1:=H0.out.kept hb1;have hz1:=hg0.kept hb1;have hs1:=hb1.size;obtain⟨x0,x1⟩:=h1.cells;obtain⟨b,o,cap,n,rfl,hn,hbl,hbne,hy⟩:=h1.head;have y1:=hy 1 _ rfl;have hrl:=h1.box.lt;have hn0:0<n:=by omega)) | (go_at_call 281;go_must (refine(o9 12 qa _).mono ?_;rintro e w2 ⟨hl,hb2⟩;obtain rfl:e=_:=hl)))
    exact⟨rfl,rfl,hK0.tr ((aK.below (by omega) hb1).tr (aK.below (by omega) hb2))⟩
   ·rw[if_neg (fun h=>hd h.2)] at fQ
    obtain rfl:=Option.some.inj fQ
    have d0:((O.length:Int)==0)=false:=by rw[beq_eq_false_iff_ne];omega
    clear hd
    go_enter Tryz.func255,Tryz.ntmps255
    go_wp2_with (go_at_call 233;go_must (refine HP.out.mono ?_;rintro e w1 ⟨rfl,hb1⟩;have h1:=H0.out.kept hb1;have hz1:=hg0.kept hb1;have hs1:=hb1.size;obtain⟨x0,x1⟩:=h1.cells;have z0:=hz1.cell 0;have z1:=hz1.cell 1;have z2:=hz1.cell 2;have z3:=hz1.cell 3;have z4:=hz1.cell 4;have z5:=hz1.cell 5;have z6:=hz1.cell 6;have z7:=hz1.cell 7;obtain⟨f0,f1,f2,f3,f4,f5,f6,f7⟩:=hz1.vF))
    have yG:=vO w.heap.size w1 (.int .i64 0) (.int .u64 0) (.int .u64 0) (.int .u64 0) (.int .u64 0) (.slice none 0 0) (.int .i64 0) (.int .i64 0)
    obtain⟨EO,hKF⟩:=h1.only hr (hK0.tr (aK.below (by omega) hb1)) hb yG (fun e=>by have:=HO.out _ e;omega)
    exact fP Tryz.results255 rfl rfl (cs:=bG) (E:=115) ((((((((hz1.set 0 (.int .i64 0)).set 1 (.int .u64 0)).set 2 (.int .u64 0)).set 3 (.int .u64 0)).set 4 (.int .u64 0)).set 5 (.slice none 0 0)).set 6 (.int .i64 0)).set 7 (.int .i64 0)) Tryz.underlying115 rfl (by kernel_rfl) rfl (show NJ r qB (.slice ao O.length co) O _ w (.inr none) _ _ from⟨rfl,⟨_,EO⟩,hKF⟩)
  ·rw[if_neg (by decide:¬ (4:Nat)=1),if_neg (by decide:¬ (4:Nat)=2),if_neg (by decide:¬ ((4:Nat)=5∨(4:Nat)=6∨(4:Nat)=7∨(4:Nat)=8)),if_neg (fun h=>absurd h.1 (by decide:¬ (4:Nat)=3))] at hans
   obtain rfl:=Option.some.inj hans
   rw[e0] at HP
   clear hans e0
   go_enter Tryz.func255,Tryz.ntmps255
   go_wp2_with (go_at_call 233;go_must (refine HP.out.mono ?_;rintro e w1 ⟨rfl,hb1⟩;have h1:=H0.out.kept hb1;have hz1:=hg0.kept hb1;have hs1:=hb1.size;obtain⟨x0,x1⟩:=h1.cells;have z0:=hz1.cell 0;have z1:=hz1.cell 1;have z2:=hz1.cell 2;have z3:=hz1.cell 3;have z4:=hz1.cell 4;have z5:=hz1.cell 5;have z6:=hz1.cell 6;have z7:=hz1.cell 7;obtain⟨f0,f1,f2,f3,f4,f5,f6,f7⟩:=hz1.vF))
   have yG:=vO w.heap.size w1 (.int .i64 0) (.int .u64 0) (.int .u64 0) (.int .u64 0) (.int .u64 0) (.slice none 0 0) (.int .i64 0) (.int .i64 0)
   obtain⟨EO,hKF⟩:=h1.only hr (hK0.tr (aK.below (by omega) hb1)) hb yG (fun e=>by have:=HO.out _ e;omega)
   exact fP Tryz.results255 rfl rfl (cs:=bG) (E:=115) ((((((((hz1.set 0 (.int .i64 0)).set 1 (.int .u64 0)).set 2 (.int .u64 0)).set 3 (.int .u64 0)).set 4 (.int .u64 0)).set 5 (.slice none 0 0)).set 6 (.int .i64 0)).set 7 (.int .i64 0)) Tryz.underlying115 rfl (by kernel_rfl) rfl (show NJ r qB (.slice ao O.length co) O _ w (.inr none) _ _ from⟨rfl,⟨_,EO⟩,hKF⟩)
  ·rw[if_neg (by decide:¬ (5:Nat)=1),if_neg (by decide:¬ (5:Nat)=2),if_pos (by decide:((5:Nat)=5∨(5:Nat)=6∨(5:Nat)=7∨(5:Nat)=8))] at hans
   obtain rfl:=Option.some.inj hans
   rw[e0] at HP
   clear hans e0
   go_enter Tryz.func255,Tryz.ntmps255
   go_wp2_with (first | (go_at_call 233;go_must (refine HP.out.mono ?_;rintro e w1 ⟨rfl,hb1⟩;have h1:=H0.out.kept hb1;have hz1:=hg0.kept hb1;have hs1:=hb1.size;obtain⟨x0,x1⟩:=h1.cells;obtain⟨b,o,cap,n,rfl,hn,hbl,hbne,hy⟩:=h1.head;have y1:=hy 1 _ rfl;have hrl:=h1.box.lt;have hn0:0<n:=by omega)) | (go_at_call 281;go_must (refine(o9 5 qa _).mono ?_;rintro e w2 ⟨hl,hb2⟩;obtain rfl:e=_:=hl)))
   exact⟨rfl,rfl,hK0.tr ((aK.below (by omega) hb1).tr (aK.below (by omega) hb2))⟩
  ·rw[if_neg (by decide:¬ (6:Nat)=1),if_neg (by decide:¬ (6:Nat)=2),if_pos (by decide:((6:Nat)=5∨(6:Nat)=6∨(6:Nat)=7∨(6:Nat)=8))] at hans
   obtain rfl:=Option.some.inj hans
   rw[e0] at HP
   clear hans e0
   go_enter Tryz.func255,Tryz.ntmps255
   go_wp2_with (first | (go_at_call 233;go_must (refine HP.out.mono ?_;rintro e w1 ⟨rfl,hb1⟩;have h1:=H0.out.kept hb1;have hz1:=hg0.kept hb1;have hs1:=hb1.size;obtain⟨x0,x1⟩:=h1.cells;obtain⟨b,o,cap,n,rfl,hn,hbl,hbne,hy⟩:=h1.head;have y1:=hy 1 _ rfl;have hrl:=h1.box.lt;have hn0:0<n:=by omega)) | (go_at_call 281;go_must (refine(o9 5 qa _).mono ?_;rintro e w2 ⟨hl,hb2⟩;obtain rfl:e=_:=hl)))
   exact⟨rfl,rfl,hK0.tr ((aK.below (by omega) hb1).tr (aK.below (by omega) hb2))⟩
  ·rw[if_neg (by decide:¬ (7:Nat)=1),if_neg (by decide:¬ (7:Nat)=2),if_pos (by decide:((7:Nat)=5∨(7:Nat)=6∨(7:Nat)=7∨(7:Nat)=8))] at hans
   obtain rfl:=Option.some.inj hans
   rw[e0] at HP
   clear hans e0
   go_enter Tryz.func255,Tryz.ntmps255
   go_wp2_with (first | (go_at_call 233;go_must (refine HP.out.mono ?_;rintro e w1 ⟨rfl,hb1⟩;have h1:=H0.out.kept hb1;have hz1:=hg0.kept hb1;have hs1:=hb1.size;obtain⟨x0,x1⟩:=h1.cells;obtain⟨b,o,cap,n,rfl,hn,hbl,hbne,hy⟩:=h1.head;have y1:=hy 1 _ rfl;have hrl:=h1.box.lt;have hn0:0<n:=by omega)) | (go_at_call 281;go_must (refine(o9 5 qa _).mono ?_;rintro e w2 ⟨hl,hb2⟩;obtain rfl:e=_:=hl)))
   exact⟨rfl,rfl,hK0.tr ((aK.below (by omega) hb1).tr (aK.below (by omega) hb2))⟩
  ·rw[if_neg (by decide:¬ (8:Nat)=1),if_neg (by decide:¬ (8:Nat)=2),if_pos (by decide:((8:Nat)=5∨(8:Nat)=6∨(8:Nat)=7∨(8:Nat)=8))] at hans
   obtain rfl:=Option.some.inj hans
   rw[e0] at HP
   clear hans e0
   go_enter Tryz.func255,Tryz.ntmps255
   go_wp2_with (first | (go_at_call 233;go_must (refine HP.out.mono ?_;rintro e w1 ⟨rfl,hb1⟩;have h1:=H0.out.kept hb1;have hz1:=hg0.kept hb1;have hs1:=hb1.size;obtain⟨x0,x1⟩:=h1.cells;obtain⟨b,o,cap,n,rfl,hn,hbl,hbne,hy⟩:=h1.head;have y1:=hy 1 _ rfl;have hrl:=h1.box.lt;have hn0:0<n:=by omega)) | (go_at_call 281;go_must (refine(o9 5 qa _).mono ?_;rintro e w2 ⟨hl,hb2⟩;obtain rfl:e=_:=hl)))
   exact⟨rfl,rfl,hK0.tr ((aK.below (by omega) hb1).tr (aK.below (by omega) hb2))⟩
end
section
open Go.RowKit
theorem afU(r qB n:Nat)(hn:n≤1099511627776)(IH:∀ m,m<n→XB r qB m):XA r qB n:=by
 intro v ov L O ans w h hr hb hO hans
 have hB0:=aj w (.cells bG 115)
 have h0:=h.kept hB0
 have hg0:=Box.new w bG 115
 have hW0:(w.alloc (.cells bG 115)).heap.size=w.heap.size+1:=by simp
 have Ai:=fun g hg=>(h.ov g hg).2
 have hK0:aK r ov w (w.alloc (.cells bG 115)):=aK.below (Nat.le_of_lt h.box.lt) hB0
 have Du:aen (w.alloc (.cells bG 115)) r qB n ov O ans (.slice none 0 0) (w.alloc (.cells bG 115)):=⟨n,none,0,[],v,ov,L,rfl,by simp,kZ.nil h0 hr (by omega),hans⟩
 have HO:=ah Ai
 have HQ:=ah Du
 have HI:=ah IH
 clear h0 Ai hB0 h hans Du IH
 go_enter Tryz.func232,Tryz.ntmps232
 go_wp2
 generalize hWW:(w.alloc (.cells bG 115))=W0 at *
 go_loopw [3] (fun p wr=>aen W0 r qB n ov O ans p wr) (fun p _=>n - lenOf p)
 case atStart=>exact HQ.out
 case round =>
  clear HQ
  obtain⟨m,a,cap,vs,v1,yF,L1,rfl,hmn,hS,hpp⟩:=hrel
  have hs0:=hS.kept.low.size
  have hrl:=hS.ps.box.lt
  have hz:=hS.kept.box hg0 (by omega) (fun e=>by have:=HO.out _ e;omega)
  cases m with
  | zero=>rw[jK] at hpp;cases hpp
  | succ m =>
   rw[jV] at hpp
   cases hA:kX m O.length L1 with
   | none=>rw[hA] at hpp;cases hpp
   | some A =>
    rw[hA] at hpp
    have hat:=HI.out m (by omega) v1 yF L1 O A wr hS.ps hr (by omega) hO hA
    have OJ:=ah hpp
    have HAT:=ah hat
    have VN:=ah hmn
    have II:=ah hS
    clear hpp hat hA hmn hS
    go_wp2_with fail
    refine HAT.out.mono ?_
    intro e w2 hres
    cases A with
    | inl p =>
     obtain⟨hl,hk2⟩:=hres
     obtain rfl:e=_:=hl
     obtain rfl:=Option.some.inj OJ.out
     exact And.intro rfl (And.intro rfl (hK0.tr (II.out.kept.trans II.out.fresh hk2)))
    | inr o =>
     cases o with
     | none =>
      obtain⟨rfl,⟨v2,h2⟩,hk2⟩:=hres
      have hS2:=II.out.mid hk2 (dW.refl _ _) h2
      have hz2:=hS2.kept.box hg0 (by omega) (fun e=>by have:=HO.out _ e;omega)
      have hans:=Option.some.inj OJ.out
      have apT:=hz2.lt
      by_cases hv0:vs.length=0
      ·rw[List.length_map,if_pos hv0] at hans
       subst hans
       have d0:((vs.length:Int)==0)=true:=by rw[hv0];rfl
       have KE:=ah hS2
       clear hv0 h2 hk2 hS2
       go_wp2_with (first | (go_at_call 257;go_must (refine(W9 _).mono ?_;rintro e w4 ⟨V,rfl,hV,hl4,alX,hb4⟩;have Aj:=(hz2.alloc _).kept hb4)) | (refine wpList_store_row rfl 115 (.tmp 2) (.tmp _) rfl w.heap.size _ rfl rfl _ _ Aj (bP V) (by show 8=V.cells.toArray.size;rw[List.size_toArray,Vt.bI]) (Vt.all V) ?_))
       have hS4:=(KE.out.below (aj w2 (.cells bG 115))).below hb4
       have hs4:=KE.out.kept.low.size
       have hTV:dX w4 r yF W0.heap.size V:=⟨hl4,alX.mono fun b hb=>by
        rw[World.size_alloc] at hb
        exact⟨by omega,by omega,fun e=>by have:=(KE.out.ps.ov _ e).2;omega⟩⟩
       exact cZ Tryz.results232 rfl (cs:=V.cells.toArray) (Aj.setRow _) Tryz.underlying115 rfl (bP V) rfl (hS4.ret hK0 hW0 HO.out hb hTV (hV.trans rfl) (oU _ _))
      ·rw[List.length_map,if_neg hv0,←RQ 4 a cap vs] at hans
       subst hans
       have d0:((vs.length:Int)==0)=false:=by rw[beq_eq_false_iff_ne];omega
       have hS3:=hS2.below (aj w2 (.cells bG 115))
       have hfl:=Ld 4 vs a cap _ hS3.own.slice
       have uQ:=ah hfl
       have KE:=ah hS3
       clear hv0 h2 hk2 hS2 hS3 hfl
       go_wp2_with (first | (go_at_call 235;go_must (refine uQ.out.mono ?_;rintro e w4 ⟨rfl,hb4⟩;have Aj:=(hz2.alloc _).kept hb4)) | (refine wpList_store_row rfl 115 (.tmp 2) (.tmp _) rfl w.heap.size _ rfl rfl _ _ Aj (bP (qI 4 a cap vs)) (by show 8=(Vt.cells (qI 4 a cap vs)).toArray.size;rw[List.size_toArray,Vt.bI]) (Vt.all (qI 4 a cap vs)) ?_))
       have hS4:=KE.out.below hb4
       exact cZ Tryz.results232 rfl (cs:=(qI 4 a cap vs).cells.toArray) (Aj.setRow _) Tryz.underlying115 rfl (bP (qI 4 a cap vs)) rfl (hS4.ret hK0 hW0 HO.out hb (hS4.flat 4 (by decide)) rfl (oU _ _))
     | some q =>
      obtain⟨x,R⟩:=q
      obtain⟨V,v2,F6,rfl,hV,h2,ht2,hk2,hf2⟩:=hres
      have hpp:jK m O.length (vs.map Vt.tr++[(dL R x).1]) (dL R x).2=some ans:=OJ.out
      have hS2:=II.out.mid hk2 hf2 h2
      have hB3:Below w2.heap.size w2 ((w2.alloc (.cells bG 115)).setRow w2.heap.size V.cells.toArray):=below_setRow (aj _ _) (Nat.le_refl _) _
      have hx2:=Box.new w2 bG 115
      have hx3:=hx2.setRow V.cells.toArray
      have hs2:=hk2.low.size
      have hpo:=acP r qB wr.heap.size v2 F6 R O V _ (h2.kept hB3) (ht2.fC hB3) hr (by simp;omega) (by simp;omega)
      have hS3:=hS2.below hB3
      have HPO:=ah hpo
      have HS3:=ah hS3
      have hown1:∀ g,(Value.slice a vs.length cap).ownBlock=some g→g<wr.heap.size:=fun g hg=>(II.out.lg g hg).2
      have HOW:=ah hown1
      have HP2:=ah hpp
      have hvn:vs.length<n:=by have:=VN.out;omega
      rw[hV] at HPO
      clear hpo hS3 hS2 hB3 h2 ht2 hk2 hpp hown1
      go_wp2_with (first | (refine wpList_store_row rfl 115 (.tmp 4) (.tmp _) rfl w2.heap.size _ rfl rfl _ _ hx2 (bP V) (by show 8=(Vt.cells V).toArray.size;rw[List.size_toArray,Vt.bI]) (Vt.all V) ?_) | (refine wpList_load_row rfl 115 (.tmp 4) rfl w2.heap.size rfl 115 _ (0,0) _ hx3 Tryz.underlying115 rfl (bP V) ?_) | (go_at_call 256;go_must (refine HPO.out.mono ?_;intro e w4 hpo;obtain⟨k5,s5,a5,cp5,bY,bZ,hi5,v4,rfl,hV4,h4,wU,hk4⟩:=hpo.open;have hS4:=HS3.out.mid hk4 (dW.refl _ _) h4;have hS5:=hS4.below (aj w4 (.cells (aC k5 s5 a5 bY.length cp5 bZ hi5).toArray 115));have kR:=wU.fC (aj w4 (.cells (aC k5 s5 a5 bY.length cp5 bZ hi5).toArray 115));have HV4:=ah hV4;clear hpo hV4)) | (at_builtin;go_must (refine eP rfl _ _ 109 rfl Fv D6 rfl hS5.own.1 ⟨w4.heap.size,0,none⟩ 1 (Vt.mk k5 s5 a5 cp5 bY bZ hi5) rfl (dD w4 (aC k5 s5 a5 bY.length cp5 bZ hi5) _) (by simp[maxLen];omega) (by omega) (by simp;have:=hS4.kept.low.size;omega) ?_;intro a6 c6 w6 zk RU hf6)))
      have hS6:=hS5.snoc kR hs0 (wU.on.mono fun b hb e=>by have:=HOW.out b e;omega) zk RU hf6
      have e4:=HV4.out
      have hmn:=VN.out
      refine⟨⟨m,a6,c6,_,v4,F6,(dL R x).2,by rw[List.length_append];rfl,by rw[List.length_append,List.length_singleton];omega,hS6,?_⟩,?_⟩
      ·rw[List.map_append,List.map_singleton,e4];exact HP2.out
      ·show n - (vs.length+1)<n - vs.length
       omega
end
section
open Go.RowKit
theorem Jy.open{r qB:Nat}{ov:Value}{O:List Int}{w w':World}{q:Tr×List Lx}{e:Ending}(h:Jy r qB ov O w (.inr q) e w'):∃ k s a cap kids lo hi v pI,e=.returned (.agg (aC k s a (List.length kids) cap lo hi).toArray)∧(Vt.mk k s a cap kids lo hi).tr=q.1∧dJ w' r qB v q.2 pI O∧dX w' r pI w.heap.size (.mk k s a cap kids lo hi)∧aK r ov w w'∧dW w ov pI:=by
 obtain⟨⟨k,s,a,cap,kids,lo,hi⟩,v,pI,h⟩:=h
 exact⟨k,s,a,cap,kids,lo,hi,v,pI,h⟩
theorem ZQ{m d:Nat}{parts:List Tr}{L:List Lx}(h:¬ iZ L=4):NK m d parts L=some (.inr (Bl 5 parts,L)):=by
 cases L with
 | nil=>rfl
 | cons q L=>exact if_neg h
theorem ahi(r qB n:Nat)(hn:n≤1099511627776)(IH:∀ m,m<n→XA r qB m):acL r qB n:=by
 intro v ov L O ans w h hr hb hO hans
 have hB0:=aj w (.cells bG 115)
 have h0:=h.kept hB0
 have hg0:=Box.new w bG 115
 have hW0:(w.alloc (.cells bG 115)).heap.size=w.heap.size+1:=by simp
 have Ai:=fun g hg=>(h.ov g hg).2
 have hK0:aK r ov w (w.alloc (.cells bG 115)):=aK.below (Nat.le_of_lt h.box.lt) hB0
 have HO:=ah Ai
 cases n with
 | zero=>rw[jd] at hans;cases hans
 | succ n =>
  rw[lJ] at hans
  cases hA:jK n O.length [] L with
  | none=>rw[hA] at hans;cases hans
  | some A =>
   rw[hA] at hans
   have hat:=IH n (by omega) v ov L O A _ h0 hr (by omega) hO hA
   have HAT:=ah hat
   have HI:=ah IH
   have lq:=ah hans
   clear h0 Ai hB0 h IH hat hans hA
   go_enter Tryz.func185,Tryz.ntmps185
   go_wp2_with fail
   refine HAT.out.mono ?_
   generalize hWW:(w.alloc (.cells bG 115))=W0 at *
   intro e w2 hres
   cases A with
   | inl p =>
    obtain⟨hl,hk2⟩:=hres
    obtain rfl:e=_:=hl
    obtain rfl:=Option.some.inj lq.out
    exact And.intro rfl (And.intro rfl (hK0.tr hk2))
   | inr p =>
    obtain⟨x,R⟩:=p
    obtain⟨k5,s5,a5,cp5,bY,bZ,hi5,v2,F6,rfl,hV,h2,ht2,hk2,hf2⟩:=hres.open
    have hpt:=kZ.one h2 hk2 hf2 hr (by omega) ht2
    have Du:ahd W0 r qB (n+1) ov O ans (.slice (some ⟨w2.heap.size,0,none⟩) 1 1) (w2.alloc (.cells (aC k5 s5 a5 bY.length cp5 bZ hi5).toArray 115)):=⟨n,_,1,[.mk k5 s5 a5 cp5 bY bZ hi5],v2,F6,R,rfl,rfl,hpt,by rw[List.map_singleton,hV];exact lq.out⟩
    have HQ:=ah Du
    clear hres hpt Du lq HAT h2 ht2 hk2 hf2 hV
    go_wp2
    go_loopw [3] (fun p wr=>ahd W0 r qB (n+1) ov O ans p wr) (fun p _=>n+1 - lenOf p)
    case atStart=>exact HQ.out
    case round =>
     clear HQ
     obtain⟨m,a,cap,vs,v1,yF,L1,rfl,hmn,hS,hpp⟩:=hrel
     have hs0:=hS.kept.low.size
     have hrl:=hS.ps.box.lt
     have hz:=hS.kept.box hg0 (by omega) (fun e=>by have:=HO.out _ e;omega)
     have hpk:=Ia r qB v1 yF L1 O wr hS.ps
     have HP:=ah hpk
     have II:=ah hS
     have VN:=ah hmn
     clear hpk hmn hS
     by_cases F5:iZ L1=4
     ·obtain⟨q,L1,rfl⟩:∃ q L',L1=q::L':=by
       cases L1 with
       | nil=>cases F5
       | cons q L=>exact⟨q,L,rfl⟩
      have CO:jd m O.length (vs.map Vt.tr) L1=some ans:=(if_pos F5).symm.trans hpp
      rw[F5] at HP
      cases m with
      | zero=>rw[jd] at CO;cases CO
      | succ m =>
       rw[lJ] at CO
       cases hA:jK m O.length [] L1 with
       | none=>rw[hA] at CO;cases CO
       | some A =>
        rw[hA] at CO
        have OJ:=ah CO
        have hat:=fun v' u hu hs=>HI.out m (by have:=VN.out;omega) v' yF L1 O A u hu hr hs hO hA
        have HAT:=ah hat
        clear hpp CO hA hat F5
        go_wp2_with (first | (go_at_call 233;go_must (refine HP.out.mono ?_;rintro e w3 ⟨rfl,hb3⟩;have hS3:=II.out.below hb3;have hs3:=hb3.size)) | (go_at_call 234;go_must (refine(uO r qB _ yF q L1 O _ hS3.ps hr (by omega)).mono ?_;rintro e w4 ⟨rfl,⟨v4,h4⟩,hk4⟩;have hS4:=hS3.mid hk4 (dW.refl _ _) h4;have hs4:=hk4.low.size)))
        refine(HAT.out v4 _ h4 (by omega)).mono ?_
        intro e w5 hres
        cases A with
        | inl p =>
         obtain⟨hl,hk5⟩:=hres
         obtain rfl:e=_:=hl
         obtain rfl:=Option.some.inj OJ.out
         exact And.intro rfl (And.intro rfl (hK0.tr (hS4.kept.trans hS4.fresh hk5)))
        | inr p =>
         obtain⟨x,R⟩:=p
         obtain⟨k5,s5,a5,cp5,bY,bZ,hi5,v5,ov5,rfl,hV,h5,ZR,hk5,hf5⟩:=hres.open
         have hS5:=hS4.mid hk5 hf5 h5
         have hS6:=hS5.below (aj w5 (.cells (aC k5 s5 a5 bY.length cp5 bZ hi5).toArray 115))
         have Dv:=ZR.fC (aj w5 (.cells (aC k5 s5 a5 bY.length cp5 bZ hi5).toArray 115))
         have hown1:∀ g,(Value.slice a vs.length cap).ownBlock=some g→g<w4.heap.size:=fun g hg=>(hS4.lg g hg).2
         have HOW:=ah hown1
         have HV:=ah hV
         have hvn:vs.length<n+1:=by have:=VN.out;omega
         have hs6:=hS5.kept.low.size
         have alY:=hS4.kept.low.size
         clear hown1 hV hres h5 hk5 hf5 hS4 h4 hk4 hS3 hb3
         go_wp2_with (at_builtin;go_must (refine eP rfl _ _ 109 rfl Fv D6 rfl hS6.own.1 ⟨w5.heap.size,0,none⟩ 1 (Vt.mk k5 s5 a5 cp5 bY bZ hi5) rfl (dD w5 (aC k5 s5 a5 bY.length cp5 bZ hi5) _) (by simp[maxLen];omega) (by omega) (by simp;omega) ?_;intro a7 c7 w7 iI dn ug))
         have hS7:=hS6.snoc Dv alY (ZR.on.mono fun b hb e=>by have:=HOW.out b e;omega) iI dn ug
         have e4:=HV.out
         have hmn:=VN.out
         refine⟨⟨m,a7,c7,_,v5,ov5,R,by rw[List.length_append];rfl,by rw[List.length_append,List.length_singleton];omega,hS7,?_⟩,?_⟩
         ·rw[List.map_append,List.map_singleton,e4];exact OJ.out
         ·show n+1 - (vs.length+1)<n+1 - vs.length
          omega
     ·rw[ZQ F5,←RQ 5 a cap vs] at hpp
      obtain rfl:=Option.some.inj hpp
      have n4:((iZ L1:Int)==4)=false:=by rw[beq_eq_false_iff_ne];omega
      clear F5 hpp
      have hfl:=fun u (hu:kZ W0 r qB ov O a cap vs v1 yF L1 u)=>Ld 5 vs a cap u hu.own.slice
      have uQ:=ah hfl
      clear hfl
      generalize hpl:iZ L1=pk at *
      go_wp2_with (first | (go_at_call 233;go_must (refine HP.out.mono ?_;rintro e w3 ⟨rfl,hb3⟩;have hS3:=II.out.below hb3;have hz3:=hz.kept hb3)) | (go_at_call 235;go_must (refine(uQ.out _ hS3).mono ?_;rintro e w4 ⟨rfl,hb4⟩;have Aj:=hz3.kept hb4)) | (refine wpList_store_row rfl 115 (.tmp 2) (.tmp _) rfl w.heap.size _ rfl rfl _ _ Aj (bP (qI 5 a cap vs)) (by show 8=(Vt.cells (qI 5 a cap vs)).toArray.size;rw[List.size_toArray,Vt.bI]) (Vt.all (qI 5 a cap vs)) ?_))
      have hS4:=hS3.below hb4
      exact cZ Tryz.results185 rfl (cs:=(qI 5 a cap vs).cells.toArray) (Aj.setRow _) Tryz.underlying115 rfl (bP (qI 5 a cap vs)) rfl (hS4.ret hK0 hW0 HO.out hb (hS4.flat 5 (by decide)) rfl (oU _ _))
theorem ahj(r qB:Nat):∀ n,n≤1099511627776→acL r qB n∧XA r qB n∧XB r qB n:=by
 intro n
 induction n using Nat.strongRecOn with
 | ind n ih =>
  intro hn
  refine⟨ahi r qB n hn fun m hm=>(ih m hm (by omega)).2.1,afU r qB n hn fun m hm=>(ih m hm (by omega)).2.2,?_⟩
  cases n with
  | zero =>
   intro v ov L O ans w _ _ _ _ h
   rw[kX] at h;cases h
  | succ n=>exact afT r qB n (acM r qB n (ih n (by omega) (by omega)).1)
end
section
open Go.RowKit
theorem Lj{most:Nat}{l:List UInt8}{p v q:Nat}(h9:9≤most)(h:takeN most l p=some (v,q)):v≤most:=by
 unfold takeN at h
 split at h
 ·rename_i hf
  cases hv:qW most 0 ((l.drop p).take (iW (l.drop p))) with
  | none=>rw[hv] at h;cases h
  | some x =>
   rw[hv] at h
   cases h
   exact Vy most _ 0 _ (FI hf) (by omega) h9 hv
 ·cases h
theorem XC{l:List UInt8}{i j:Nat}{q:Int×Int}(h:yQ l i=.inr (q,j)):0≤q.1∧q.1≤1000∧(q.2=-1∨q.1≤q.2∧q.2≤1000):=by
 unfold yQ at h
 split at h
 ·cases h
 ·rename_i lo p1 t1
  have h1:=Lj (by decide) t1
  split at h
  ·split at h
   ·cases h;exact⟨by simp,by simp;omega,.inl rfl⟩
   ·split at h
    ·cases h
    ·rename_i hi2 q2 t2
     have h2:=Lj (by decide) t2
     split at h
     ·split at h
      ·cases h
      ·cases h;exact⟨by simp,by simp;omega,.inr ⟨by simp;omega,by simp;omega⟩⟩
     ·cases h
  ·split at h
   ·cases h;exact⟨by simp,by simp;omega,.inr ⟨Int.le_refl _,by simp;omega⟩⟩
   ·cases h
theorem RV(c:Nat)(h:mX c≠0):2≤mX c∧mX c<8:=by
 unfold mX at h ⊢
 repeat' split
 all_goals simp_all
theorem RX{l:List UInt8}{i j:Nat}{x:Lx}(h:mY l i=.inr (x,j)):pY x:=by
 unfold mY at h
 dsimp only at h
 split at h
 ·split at h
  ·cases h
  ·cases h;exact .inl ⟨rfl,rfl,rfl⟩
 split at h
 ·split at h
  ·cases h
  ·cases h;exact .inl ⟨rfl,rfl,rfl⟩
 split at h
 ·split at h
  ·cases h
  ·rename_i hq;cases h;exact .inr (.inr ⟨rfl,rfl,XC hq⟩)
 split at h
 ·cases h;exact .inl ⟨rfl,rfl,rfl⟩
 split at h
 ·cases h
 split at h
 ·cases h;exact .inl ⟨rfl,rfl,rfl⟩
 ·rename_i hk;cases h;exact .inr (.inl ⟨(RV _ hk).1,(RV _ hk).2,rfl,rfl,rfl⟩)
theorem PI(l:List UInt8):∀ (n i:Nat) (acc X:List Lx),(∀ x∈acc,pY x)→lexFrom l n i acc=.inr X→∀ x∈X,pY x:=by
 intro n
 induction n with
 | zero=>intro i acc X ha h;rw[lexFrom] at h;cases h;exact ha
 | succ n ih =>
  intro i acc X ha h
  rw[lexFrom] at h
  split at h
  ·split at h
   ·cases h
   ·rename_i y k hq
    refine ih _ _ _ (fun x hx=>?_) h
    rcases List.mem_append.1 hx with hx | hx
    ·exact ha x hx
    ·rw[List.mem_singleton.1 hx];exact RX hq
  ·cases h;exact ha
theorem RY{l:List UInt8}{X:List Lx}(h:jP l=.inr X):∀ x∈X,pY x:=by
 unfold jP at h
 split at h
 ·cases h
 ·exact PI l _ _ _ _ (fun x hx=>by cases hx) h
theorem ZT(p:Nat)(s:au)(w:World):Calls Tryz.prog 231 #[.agg #[.int .i64 1,.int .i64 p,.int .u64 (word s 0:Nat),.int .u64 (word s 1:Nat),.int .u64 (word s 2:Nat),.int .u64 (word s 3:Nat),.int .i64 0,.int .i64 0]] w (aY w (.bool true)):=by
 have e1:decide ((p:Int)<0)=false:=by simp
 go_enter Tryz.func231,Tryz.ntmps231
 go_wp2
 go_ret
 exact⟨rfl,by go_grown⟩
theorem XD(k p:Nat)(h1:2≤k)(h2:k<8)(w:World):Calls Tryz.prog 231 #[.agg #[.int .i64 k,.int .i64 p,.int .u64 0,.int .u64 0,.int .u64 0,.int .u64 0,.int .i64 0,.int .i64 0]] w (aY w (.bool true)):=by
 have e1:decide ((p:Int)<0)=false:=by simp
 have e2:((k:Int) != 1)=true:=by simp;omega
 have e3:((k:Int)==8)=false:=by simp;omega
 have e4:decide ((1:Int)≤k)=true:=decide_eq_true (by omega)
 have e5:decide ((k:Int)<8)=true:=decide_eq_true (by omega)
 have hq:=fun w=>Nq (P:=Tryz.prog) (t:=113) (e:=111) Tryz.underlying113 Tryz.underlying111 (by kernel_rfl) 0 0 w
 simp only[iK,gG] at hq
 go_enter Tryz.func231,Tryz.ntmps231
 go_wp2
 go_ret
 exact⟨rfl,by go_grown⟩
theorem XE(p:Nat)(lo hi:Int)(h0:0≤lo)(h1:lo≤1000)(h2:hi=-1)(w:World):Calls Tryz.prog 231 #[.agg #[.int .i64 8,.int .i64 p,.int .u64 0,.int .u64 0,.int .u64 0,.int .u64 0,.int .i64 lo,.int .i64 hi]] w (aY w (.bool true)):=by
 have e1:decide ((p:Int)<0)=false:=by simp
 have e2:decide ((0:Int)≤lo)=true:=decide_eq_true h0
 have e3:decide (lo≤(1000:Int))=true:=decide_eq_true h1
 subst h2
 have hq:=fun w=>Nq (P:=Tryz.prog) (t:=113) (e:=111) Tryz.underlying113 Tryz.underlying111 (by kernel_rfl) 0 0 w
 simp only[iK,gG] at hq
 go_enter Tryz.func231,Tryz.ntmps231
 go_wp2
 go_ret
 exact⟨rfl,by go_grown⟩
theorem XF(p:Nat)(lo hi:Int)(h0:0≤lo)(h1:lo≤1000)(h2:lo≤hi)(h3:hi≤1000)(w:World):Calls Tryz.prog 231 #[.agg #[.int .i64 8,.int .i64 p,.int .u64 0,.int .u64 0,.int .u64 0,.int .u64 0,.int .i64 lo,.int .i64 hi]] w (aY w (.bool true)):=by
 have e1:decide ((p:Int)<0)=false:=by simp
 have e2:decide ((0:Int)≤lo)=true:=decide_eq_true h0
 have e3:decide (lo≤(1000:Int))=true:=decide_eq_true h1
 have e4:(hi==-1)=false:=by simp;omega
 have e5:decide (lo≤hi)=true:=decide_eq_true h2
 have e6:decide (hi≤(1000:Int))=true:=decide_eq_true h3
 have hq:=fun w=>Nq (P:=Tryz.prog) (t:=113) (e:=111) Tryz.underlying113 Tryz.underlying111 (by kernel_rfl) 0 0 w
 simp only[iK,gG] at hq
 go_enter Tryz.func231,Tryz.ntmps231
 go_wp2
 go_ret
 exact⟨rfl,by go_grown⟩
theorem ZU(x:Lx)(h:pY x)(w:World):Calls Tryz.prog 231 #[.agg (fV x).toArray] w (aY w (.bool true)):=by
 obtain⟨k,p,s,lo,hi⟩:=x
 rcases h with⟨h1,h2,h3⟩ | ⟨h1,h2,h3,h4,h5⟩ | ⟨h1,h2,h3,h4,h5⟩
 ·dsimp only at h1 h2 h3
  subst h1 h2 h3
  exact ZT p s w
 ·dsimp only at h1 h2 h3 h4 h5
  subst h3 h4 h5
  have:=XD k p h1 h2 w
  simp only[fV,qK]
  exact this
 ·dsimp only at h1 h2 h3 h4 h5
  subst h1 h2
  simp only[fV,qK]
  rcases h5 with h5 | ⟨h5,h6⟩
  ·exact XE p lo hi h3 h4 h5 w
  ·exact XF p lo hi h3 h4 h5 h6 w
end
section
open Go.RowKit
theorem OL{w wr:World}{b o i:Nat}{x:Lx}(h:∀ j u,(fV x)[j]?=some u→w.cell? ⟨b,o+i*8+j,none⟩=some u)(hB:Below w.heap.size w wr):∀ j u,(fV x)[j]?=some u→wr.cell? ⟨b,o+i*8+j,none⟩=some u:=fun j u hu=>by
 have:=h j u hu
 rw[hB.cell (World.block_lt_of_cell? w _ this)];exact this
theorem UU(a:Option Addr)(cap n:Nat)(L:List Lx)(w:World)(h:ak w (.slice a n cap) 8 fV L)(hR:∀ x∈L,pY x) :
  Calls Tryz.prog 183 #[.slice a n cap] w (aY w (if 1024<L.length then dZ 4 (L.getD 1024 ⟨0,0,0,0,0⟩).at' else dZ 0 0)):=by
 obtain⟨b,o,hn,hcap,hcap2,ha,hx⟩:=h.open
 have HX:=ah hx
 have HA:=ah ha
 have HR:=ah hR
 have HN:=ah hn
 clear hx ha hR h
 have hb0:Below w.heap.size w (w.alloc (.cells #[.int .i64 0,.int .i64 0] 66)):=by go_grown
 have hx0:=Box.new w #[.int .i64 0,.int .i64 0] 66
 clear hn
 have apB:n≤cap:=by rw[HN.out];exact hcap
 clear hcap
 obtain⟨ANS,hans⟩:∃ ANS,(if 1024<L.length then dZ 4 (L.getD 1024 ⟨0,0,0,0,0⟩).at' else dZ 0 0)=ANS:=⟨_,rfl⟩
 rw[hans]
 have HAN:=ah hans
 clear hans
 go_enter Tryz.func183,Tryz.ntmps183
 go_wp2
 go_loopw [7] (fun i wr=>∃ j:Nat,j≤n∧i=.int .i64 j∧Box wr w.heap.size #[.int .i64 0,.int .i64 0] 66∧Below w.heap.size w wr) (fun i _=>n - (intOf i).toNat)
 case atStart=>exact⟨0,Nat.zero_le _,rfl,hx0,hb0⟩
 case round =>
  clear hx0 hb0
  obtain⟨j,hj,rfl,hX,hB⟩:=hrel
  by_cases hlt:j<n
  ·have hjl:j<L.length:=by rw[←HN.out];exact hlt
   obtain rfl:=HA.out j hjl
   have y:=OL (HX.out j hjl) hB
   have y0:=y 0 _ rfl
   have y1:=y 1 _ rfl
   have y2:=y 2 _ rfl
   have y3:=y 3 _ rfl
   have y4:=y 4 _ rfl
   have y5:=y 5 _ rfl
   have y6:=y 6 _ rfl
   have y7:=y 7 _ rfl
   have hbl:=World.block_lt_of_cell? wr _ y0
   have hrt:=ZU L[j] (HR.out _ (List.getElem_mem hjl))
   simp only[Nat.add_zero] at y0
   have Gf:=ah hrt
   clear y hrt
   generalize L[j]=x at *
   clear hjl
   go_wp2_with (go_at_call 231;go_must (refine(Gf.out _).mono ?_;rintro e w1 ⟨rfl,hb1⟩))
   go_roundw
   case rel=>exact⟨j+1,hlt,by go_num,(hX.alloc _).kept hb1,(hB.trans ((aj wr _).mono hB.size)).trans (hb1.mono (by have:=hB.size;simp;omega))⟩
   case measure=>simp[intOf];omega
  ·have hans:=HAN.out
   have hnl:=HN.out
   have f0:=hX.free 0
   have f1:=hX.free 1
   have c0:=hX.cell 0
   have c1:=hX.cell 1
   by_cases hbig:1024<n
   ·have hjl:1024<L.length:=by rw[←HN.out];exact hbig
    obtain rfl:=HA.out 1024 hjl
    rw[if_pos hjl,List.getD_eq_getElem?_getD,List.getElem?_eq_getElem hjl,Option.getD_some] at hans
    have y1:=OL (HX.out 1024 hjl) hB 1 _ rfl
    have hbl:=World.block_lt_of_cell? wr _ y1
    subst hans
    generalize L[1024]=x at *
    clear hjl hnl
    go_wp2
    exact cZ Tryz.results183 rfl (cs:=#[.int .i64 4,.int .i64 x.at']) ((hX.set 0 _).set 1 _) Tryz.underlying66 rfl (by kernel_rfl) rfl ⟨rfl,(hB.setCell (by simp) _).setCell (by simp) _⟩
   ·rw[if_neg (by omega)] at hans
    subst hans
    clear hnl
    go_wp2
    exact cZ Tryz.results183 rfl (cs:=#[.int .i64 0,.int .i64 0]) ((hX.set 0 _).set 1 _) Tryz.underlying66 rfl (by kernel_rfl) rfl ⟨rfl,(hB.setCell (by simp) _).setCell (by simp) _⟩
end
end Go.Proofs.YtengfapcaaacaaaGreatDoor
