/- The texts of B5, in few letters (mini.py). -/
import Derived.Test.YtaoinbjjolikhaaGreatDoorM4
set_option linter.unusedVariables false
set_option linter.unusedSimpArgs false
set_option maxRecDepth 20000
set_option maxHeartbeats 1600000
namespace Go.Proofs.YtaoinbjjolikhaaGreatDoor
section
open Go.RowKit
theorem Rt:(Tryz.prog.info? 22).map (fun i=>(i.zero,i.size))=some (some (.agg (aY fun _=>0)),256):=by kernel_rfl
theorem kC(w:World):(zeroValue 22).run Tryz.prog w=.ok (.agg (aY fun _=>0)) w:=(zero_of_info Rt).1 w
theorem aZ(f:Nat→Nat):(Tryz.prog.info? 22).map (·.size)=some (aY f).size:=by rw[bf];exact(zero_of_info Rt).2
theorem JF:sF Tryz.prog 4 (fun n:Bool=>Value.bool n):=Xl Tryz.underlying4
theorem U4(k:Nat→Bool)(w:World)
  (hkey:∀ b:Nat,b<256→∀ w',Below w.heap.size w w'→Calls Tryz.prog 151 #[.int .i64 b] w' (aX w' (.bool (k b)))) :
  Calls Tryz.prog 150 #[.func (.func 151) #[] #[]] w (aX w (.tuple #[.agg (aY (bD (bg k))),.int .i64 (iQ (bg k):Nat)])):=by
 have E:=oO k
 have hz:=kC
 have hmm:=@run_makeMap Tryz.prog
 have HK:=ah hkey
 clear hkey
 generalize hR:bg k=R at *
 have HR:=ah hR
 clear hR
 go_enter Tryz.func150,Tryz.ntmps150
 go_wp2
 go_loopw [11] (fun i wr=>∃ n:Nat,n≤256∧i=.int .i64 n∧Box wr w.heap.size (aY fun _=>0) 22∧Box wr (w.heap.size+1) (aY fun b=>if b<n then bD R b else 0) 22∧aO wr (w.heap.size+1+1) (fun n:Bool=>Value.bool n) (qI k (aJ R n))∧Below w.heap.size w wr) (fun i _=>256 - (intOf i).toNat)
 case atStart =>
  refine⟨0,Nat.zero_le _,rfl,((Box.new' rfl _ _).alloc _).alloc _,?_,?_,by go_grown⟩
  ·rw[dU (g:=fun _=>0) (fun i _=>by simp)];exact(Box.new' (World.size_alloc _ _).symm _ _).alloc _
  ·rw[Ec];refine aO.new' ?_ _;simp
 case round =>
  obtain⟨n,hn,rfl,hb0,hb1,hm,hB⟩:=hrel
  by_cases hlt:n<256
  ·have hlook:=Eb k n (aJ R n)
   rw[HR.out] at hlook
   have hlen:=jX R n
   cases hany:(aJ R n).any (R n) with
   | true =>
    obtain⟨e1,e2⟩:=Jy E.refl hlt hany
    rw[e2] at hlook
    have HL:=ah hlook
    have HE:=ah e1
    clear hlook e1 e2 hany
    go_wp2_with (go_at_call 151;go_must (refine(HK.out n hlt _ hB).mono ?_;rintro e w1 ⟨rfl,hb⟩;have hB1:=(hB.trans (hb.mono hB.size));have hx0:=(hb0.kept hb);have hx1:=(hb1.kept hb);have hm1:=(hm.kept hb);have hrun:=hm1.qU JF Tryz.underlying255 (Tryz.zeroValue5 _) (k n);rw[HL.out] at hrun;have hc:=(hx1.cell n).trans (dV _ n hlt);have hf:=hx1.free n))
    go_roundw
    case rel =>
     refine⟨n+1,hlt,by go_num,hx0.other _ _ (by simp),?_,?_,by go_grown⟩
     ·have:=hx1.set n (.int .u8 (bD R n:Nat))
      rw[uH,dU (g:=fun b=>if b<n+1 then bD R b else 0) (qc rfl)] at this
      exact this
     ·rw[HE.out];exact hm1.other _ _ (by simp)
    case measure=>simp[intOf];omega
   | false =>
    obtain⟨e1,e2⟩:=Jw E.refl hlt hany
    rw[yD hany] at hlook
    have HL:=ah hlook
    have HE:=ah e1
    have HN:=ah e2
    clear hlook e1 e2 hany
    go_wp2_with (go_at_call 151;go_must (refine(HK.out n hlt _ hB).mono ?_;rintro e w1 ⟨rfl,hb⟩;have hB1:=(hB.trans (hb.mono hB.size));have hx0:=(hb0.kept hb);have hx1:=(hb1.kept hb);have hm1:=(hm.kept hb);have hrun:=hm1.qU JF Tryz.underlying255 (Tryz.zeroValue5 _) (k n);rw[HL.out] at hrun;have hlen1:=hm1.zT Tryz.underlying255 3 _ (oz k (aJ R n));obtain⟨w2,hput,hm2,hoth,hsz2,hbel⟩:=hm1.sG JF Tryz.underlying255 (k n) (.int .u8 ((aJ R n).length:Nat));have hy0:=hx0.turn hoth (by omega);have hy1:=hx1.turn hoth (by omega);have hB2:=hB1.trans (hbel w.heap.size (by omega));have hlk:look (k n) (qI k (aJ R n))=none:=HL.out;rw[kX _ _ _ hlk,←Ea] at hm2;have hc:=(hy1.cell n).trans (dV _ n hlt);have hf:=hy1.free n;have hconv:=nK (aJ R n).length (by omega); clear hoth hbel hsz2 hlk))
    go_roundw
    case rel =>
     refine⟨n+1,hlt,by go_num,hy0.other _ _ (by simp),?_,?_,by go_grown⟩
     ·have:=hy1.set n (.int .u8 ((aJ R n).length:Nat))
      rw[uH,dU (g:=fun b=>if b<n+1 then bD R b else 0) (qc HN.out)] at this
      exact this
     ·rw[HE.out];exact hm2.other _ _ (by simp)
    case measure=>simp[intOf];omega
  ·obtain rfl:n=256:=by omega
   have hlen1:=hm.zT Tryz.underlying255 3 _ (oz k (aJ R 256))
   rw[dU (g:=bD R) (fun i hi=>if_pos hi)] at hb1
   go_wp2_with (first | (refine wpList_load_row rfl 22 (.tmp 4) rfl (w.heap.size+1) rfl _ _ _ _ hb1 Tryz.underlying22 rfl (aZ _) ?_) | (refine wpList_store_row rfl 22 (.tmp 2) (.tmp 35) rfl w.heap.size _ rfl rfl _ _ hb0 (aZ _) (by rw[bf,bf]) (gY _) ?_))
   refine fZ Tryz.results150 rfl rfl (hb0.setRow _) Tryz.underlying22 rfl (aZ _) rfl ⟨?_,below_setRow hB (Nat.le_refl _) _⟩
   rw[nM];rfl
theorem Ru:sF Tryz.prog 5 (fun n:Int=>Value.int .u8 n):=OW Tryz.underlying5
theorem Zm(k:Nat→Int)(p:Value)(w:World)
  (hkey:∀ b:Nat,b<256→∀ w',Below w.heap.size w w'→Calls Tryz.prog 88 #[.int .i64 b,p] w' (aX w' (.int .u8 (k b)))) :
  Calls Tryz.prog 87 #[.func (.func 88) #[] #[p]] w (aX w (.tuple #[.agg (aY (bD (bg k))),.int .i64 (iQ (bg k):Nat)])):=by
 have E:=oO k
 have hz:=kC
 have hmm:=@run_makeMap Tryz.prog
 have HK:=ah hkey
 clear hkey
 generalize hR:bg k=R at *
 have HR:=ah hR
 clear hR
 go_enter Tryz.func87,Tryz.ntmps87
 go_wp2
 go_loopw [11] (fun i wr=>∃ n:Nat,n≤256∧i=.int .i64 n∧Box wr w.heap.size (aY fun _=>0) 22∧Box wr (w.heap.size+1) (aY fun b=>if b<n then bD R b else 0) 22∧aO wr (w.heap.size+1+1) (fun n:Int=>Value.int .u8 n) (qI k (aJ R n))∧Below w.heap.size w wr) (fun i _=>256 - (intOf i).toNat)
 case atStart =>
  refine⟨0,Nat.zero_le _,rfl,((Box.new' rfl _ _).alloc _).alloc _,?_,?_,by go_grown⟩
  ·rw[dU (g:=fun _=>0) (fun i _=>by simp)];exact(Box.new' (World.size_alloc _ _).symm _ _).alloc _
  ·rw[Ec];refine aO.new' ?_ _;simp
 case round =>
  obtain⟨n,hn,rfl,hb0,hb1,hm,hB⟩:=hrel
  by_cases hlt:n<256
  ·have hlook:=Eb k n (aJ R n)
   rw[HR.out] at hlook
   have hlen:=jX R n
   cases hany:(aJ R n).any (R n) with
   | true =>
    obtain⟨e1,e2⟩:=Jy E.refl hlt hany
    rw[e2] at hlook
    have HL:=ah hlook
    have HE:=ah e1
    clear hlook e1 e2 hany
    go_wp2_with (go_at_call 88;go_must (refine(HK.out n hlt _ hB).mono ?_;rintro e w1 ⟨rfl,hb⟩;have hB1:=(hB.trans (hb.mono hB.size));have hx0:=(hb0.kept hb);have hx1:=(hb1.kept hb);have hm1:=(hm.kept hb);have hrun:=hm1.qU Ru Tryz.underlying195 (Tryz.zeroValue5 _) (k n);rw[HL.out] at hrun;have hc:=(hx1.cell n).trans (dV _ n hlt);have hf:=hx1.free n))
    go_roundw
    case rel =>
     refine⟨n+1,hlt,by go_num,hx0.other _ _ (by simp),?_,?_,by go_grown⟩
     ·have:=hx1.set n (.int .u8 (bD R n:Nat))
      rw[uH,dU (g:=fun b=>if b<n+1 then bD R b else 0) (qc rfl)] at this
      exact this
     ·rw[HE.out];exact hm1.other _ _ (by simp)
    case measure=>simp[intOf];omega
   | false =>
    obtain⟨e1,e2⟩:=Jw E.refl hlt hany
    rw[yD hany] at hlook
    have HL:=ah hlook
    have HE:=ah e1
    have HN:=ah e2
    clear hlook e1 e2 hany
    go_wp2_with (go_at_call 88;go_must (refine(HK.out n hlt _ hB).mono ?_;rintro e w1 ⟨rfl,hb⟩;have hB1:=(hB.trans (hb.mono hB.size));have hx0:=(hb0.kept hb);have hx1:=(hb1.kept hb);have hm1:=(hm.kept hb);have hrun:=hm1.qU Ru Tryz.underlying195 (Tryz.zeroValue5 _) (k n);rw[HL.out] at hrun;have hlen1:=hm1.zT Tryz.underlying195 3 _ (oz k (aJ R n));obtain⟨w2,hput,hm2,hoth,hsz2,hbel⟩:=hm1.sG Ru Tryz.underlying195 (k n) (.int .u8 ((aJ R n).length:Nat));have hy0:=hx0.turn hoth (by omega);have hy1:=hx1.turn hoth (by omega);have hB2:=hB1.trans (hbel w.heap.size (by omega));have hlk:look (k n) (qI k (aJ R n))=none:=HL.out;rw[kX _ _ _ hlk,←Ea] at hm2;have hc:=(hy1.cell n).trans (dV _ n hlt);have hf:=hy1.free n;have hconv:=nK (aJ R n).length (by omega); clear hoth hbel hsz2 hlk))
    go_roundw
    case rel =>
     refine⟨n+1,hlt,by go_num,hy0.other _ _ (by simp),?_,?_,by go_grown⟩
     ·have:=hy1.set n (.int .u8 ((aJ R n).length:Nat))
      rw[uH,dU (g:=fun b=>if b<n+1 then bD R b else 0) (qc HN.out)] at this
      exact this
     ·rw[HE.out];exact hm2.other _ _ (by simp)
    case measure=>simp[intOf];omega
  ·obtain rfl:n=256:=by omega
   have hlen1:=hm.zT Tryz.underlying195 3 _ (oz k (aJ R 256))
   rw[dU (g:=bD R) (fun i hi=>if_pos hi)] at hb1
   go_wp2_with (first | (refine wpList_load_row rfl 22 (.tmp 4) rfl (w.heap.size+1) rfl _ _ _ _ hb1 Tryz.underlying22 rfl (aZ _) ?_) | (refine wpList_store_row rfl 22 (.tmp 2) (.tmp 35) rfl w.heap.size _ rfl rfl _ _ hb0 (aZ _) (by rw[bf,bf]) (gY _) ?_))
   refine fZ Tryz.results87 rfl rfl (hb0.setRow _) Tryz.underlying22 rfl (aZ _) rfl ⟨?_,below_setRow hB (Nat.le_refl _) _⟩
   rw[nM];rfl
end
section
open Go.RowKit
theorem Rw:sF Tryz.prog 223 (CB .i64):=by
 obtain⟨i,hi,_,hs,_⟩:=info_parts (P:=Tryz.prog) (e:=3) (z:=.int .i64 0) (size:=1) (bytes:=8) (by kernel_rfl)
 exact Xm Tryz.underlying223 Tryz.underlying3 hi (by kernel_rfl) hs
theorem Zn(k:Nat→Int×Int)(p q:Value)(w:World)
  (hkey:∀ b:Nat,b<256→∀ w',Below w.heap.size w w'→Calls Tryz.prog 153 #[.int .i64 b,p,q] w' (aX w' (CB .i64 (k b)))) :
  Calls Tryz.prog 152 #[.func (.func 153) #[] #[p,q]] w (aX w (.tuple #[.agg (aY (bD (bg k))),.int .i64 (iQ (bg k):Nat)])):=by
 have E:=oO k
 have hz:=kC
 have hmm:=@run_makeMap Tryz.prog
 have HK:=ah hkey
 clear hkey
 generalize hR:bg k=R at *
 have HR:=ah hR
 clear hR
 go_enter Tryz.func152,Tryz.ntmps152
 go_wp2
 go_loopw [11] (fun i wr=>∃ n:Nat,n≤256∧i=.int .i64 n∧Box wr w.heap.size (aY fun _=>0) 22∧Box wr (w.heap.size+1) (aY fun b=>if b<n then bD R b else 0) 22∧aO wr (w.heap.size+1+1) (CB .i64) (qI k (aJ R n))∧Below w.heap.size w wr) (fun i _=>256 - (intOf i).toNat)
 case atStart =>
  refine⟨0,Nat.zero_le _,rfl,((Box.new' rfl _ _).alloc _).alloc _,?_,?_,by go_grown⟩
  ·rw[dU (g:=fun _=>0) (fun i _=>by simp)];exact(Box.new' (World.size_alloc _ _).symm _ _).alloc _
  ·rw[Ec];refine aO.new' ?_ _;simp
 case round =>
  obtain⟨n,hn,rfl,hb0,hb1,hm,hB⟩:=hrel
  by_cases hlt:n<256
  ·have hlook:=Eb k n (aJ R n)
   rw[HR.out] at hlook
   have hlen:=jX R n
   cases hany:(aJ R n).any (R n) with
   | true =>
    obtain⟨e1,e2⟩:=Jy E.refl hlt hany
    rw[e2] at hlook
    have HL:=ah hlook
    have HE:=ah e1
    clear hlook e1 e2 hany
    go_wp2_with (go_at_call 153;go_must (refine(HK.out n hlt _ hB).mono ?_;rintro e w1 ⟨rfl,hb⟩;have hB1:=Below.alloc (hB.trans (hb.mono hB.size)) (by have:=hb0.lt;have:=hb.size;omega) (.cells #[.int .i64 (k n).1,.int .i64 (k n).2] 223);have hx0:=(hb0.kept hb).alloc (.cells #[.int .i64 (k n).1,.int .i64 (k n).2] 223);have hx1:=(hb1.kept hb).alloc (.cells #[.int .i64 (k n).1,.int .i64 (k n).2] 223);have hm1:=(hm.kept hb).alloc (.cells #[.int .i64 (k n).1,.int .i64 (k n).2] 223);have hrun:=hm1.qU Rw Tryz.underlying256 (Tryz.zeroValue5 _) (k n);rw[HL.out] at hrun;have hc:=(hx1.cell n).trans (dV _ n hlt);have hf:=hx1.free n))
    go_roundw
    case rel =>
     refine⟨n+1,hlt,by go_num,hx0.other _ _ (by simp),?_,?_,by go_grown⟩
     ·have:=hx1.set n (.int .u8 (bD R n:Nat))
      rw[uH,dU (g:=fun b=>if b<n+1 then bD R b else 0) (qc rfl)] at this
      exact this
     ·rw[HE.out];exact hm1.other _ _ (by simp)
    case measure=>simp[intOf];omega
   | false =>
    obtain⟨e1,e2⟩:=Jw E.refl hlt hany
    rw[yD hany] at hlook
    have HL:=ah hlook
    have HE:=ah e1
    have HN:=ah e2
    clear hlook e1 e2 hany
    go_wp2_with (go_at_call 153;go_must (refine(HK.out n hlt _ hB).mono ?_;rintro e w1 ⟨rfl,hb⟩;have hB1:=Below.alloc (hB.trans (hb.mono hB.size)) (by have:=hb0.lt;have:=hb.size;omega) (.cells #[.int .i64 (k n).1,.int .i64 (k n).2] 223);have hx0:=(hb0.kept hb).alloc (.cells #[.int .i64 (k n).1,.int .i64 (k n).2] 223);have hx1:=(hb1.kept hb).alloc (.cells #[.int .i64 (k n).1,.int .i64 (k n).2] 223);have hm1:=(hm.kept hb).alloc (.cells #[.int .i64 (k n).1,.int .i64 (k n).2] 223);have hrun:=hm1.qU Rw Tryz.underlying256 (Tryz.zeroValue5 _) (k n);rw[HL.out] at hrun;have hlen1:=hm1.zT Tryz.underlying256 3 _ (oz k (aJ R n));obtain⟨w2,hput,hm2,hoth,hsz2,hbel⟩:=hm1.sG Rw Tryz.underlying256 (k n) (.int .u8 ((aJ R n).length:Nat));have hy0:=hx0.turn hoth (by omega);have hy1:=hx1.turn hoth (by omega);have hB2:=hB1.trans (hbel w.heap.size (by omega));have hlk:look (k n) (qI k (aJ R n))=none:=HL.out;rw[kX _ _ _ hlk,←Ea] at hm2;have hc:=(hy1.cell n).trans (dV _ n hlt);have hf:=hy1.free n;have hconv:=nK (aJ R n).length (by omega);have apK:=((Box.new w1 #[.int .i64 (k n).1,.int .i64 (k n).2] 223).turn hoth (by have:=hm.lt;have:=hb.size;omega)).cell 0;have apL:=((Box.new w1 #[.int .i64 (k n).1,.int .i64 (k n).2] 223).turn hoth (by have:=hm.lt;have:=hb.size;omega)).cell 1;clear hoth hbel hsz2 hlk))
    go_roundw
    case rel =>
     refine⟨n+1,hlt,by go_num,hy0.other _ _ (by simp),?_,?_,by go_grown⟩
     ·have:=hy1.set n (.int .u8 ((aJ R n).length:Nat))
      rw[uH,dU (g:=fun b=>if b<n+1 then bD R b else 0) (qc HN.out)] at this
      exact this
     ·rw[HE.out];exact hm2.other _ _ (by simp)
    case measure=>simp[intOf];omega
  ·obtain rfl:n=256:=by omega
   have hlen1:=hm.zT Tryz.underlying256 3 _ (oz k (aJ R 256))
   rw[dU (g:=bD R) (fun i hi=>if_pos hi)] at hb1
   go_wp2_with (first | (refine wpList_load_row rfl 22 (.tmp 4) rfl (w.heap.size+1) rfl _ _ _ _ hb1 Tryz.underlying22 rfl (aZ _) ?_) | (refine wpList_store_row rfl 22 (.tmp 2) (.tmp 35) rfl w.heap.size _ rfl rfl _ _ hb0 (aZ _) (by rw[bf,bf]) (gY _) ?_))
   refine fZ Tryz.results152 rfl rfl (hb0.setRow _) Tryz.underlying22 rfl (aZ _) rfl ⟨?_,below_setRow hB (Nat.le_refl _) _⟩
   rw[nM];rfl
end
section
open Go.RowKit
def RL(l:List au)(b c:Nat):Bool:=l.all fun s=>mem s b==mem s c
theorem afQ(l:List au):yV (RL l):=by
 refine⟨fun b=>by simp[RL],fun{b c} h=>?_,fun{b c d} h k=>?_⟩ <;> simp only[RL,List.all_eq_true,beq_iff_eq] at *
 ·exact fun s hs=>(h s hs).symm
 ·exact fun s hs=>(h s hs).trans (k s hs)
theorem VX(l:List au)(s:au)(b c:Nat):RL (l++[s]) b c=(RL l b c&&(mem s b==mem s c)):=by simp[RL]
def yG(R:Nat→Nat→Bool)(s:au)(b:Nat):Int×Int:=((bD R b:Nat),if mem s b then 1 else 0)
theorem IZ{R:Nat→Nat→Bool}(E:yV R)(s:au){b c:Nat}(hb:b<256)(hc:c<256):bg (yG R s) b c=(R b c&&(mem s b==mem s c)):=by
 rw[Bool.eq_iff_iff]
 simp only[bg,yG,decide_eq_true_eq,Prod.mk.injEq,Bool.and_eq_true,beq_iff_eq]
 rw[show(((bD R b:Nat):Int)=((bD R c:Nat):Int))↔bD R b=bD R c by omega,Ig E hb hc]
 cases mem s b <;> cases mem s c <;> simp
theorem Zo(b:Nat)(w:World):Calls Tryz.prog 151 #[.int .i64 b] w (aX w (.bool true)):=by
 go_enter Tryz.func151,Tryz.ntmps151
 go_wp2
 go_ret
 exact⟨rfl,by go_grown⟩
theorem Zp(R:Nat→Nat→Bool)(E:yV R)(s:au)(p q b:Nat)(w:World)(hb:b<256)(hp:Box w p (bV s) 99)(hq:Box w q (aY (bD R)) 22) :
  Calls Tryz.prog 153 #[.int .i64 b,.pointer (some ⟨p,0,none⟩),.pointer (some ⟨q,0,none⟩)] w (aX w (CB .i64 (yG R s b))):=by
 obtain⟨⟨r0,r1,r2,r3⟩,_⟩:=hp.jE
 have hlt:=Xn E.refl hb
 have l1:=hp.lt
 have l2:=hq.lt
 have hwr:=nK b hb
 cases hm:mem s b with
 | true =>
  have HM:=ah hm
  clear hm
  go_enter Tryz.func153,Tryz.ntmps153
  go_wp2_with (go_at_call 154;go_must (refine(JD _ _ _ hb).mono ?_;rintro e w1 ⟨rfl,hB⟩;rw[HM.out];have hc1:=(((hq.alloc _).kept hB).cell b).trans (dV _ b hb);have hx0:=(Box.new _ _ _).kept hB;have hx1:=hx0.cell 0;have hx2:=hx0.cell 1;have hx3:=hx0.free 0;have hx4:=hx0.free 1))
  refine dn Tryz.results153 rfl ((hx0.set 0 _).set 1 _) Tryz.underlying223 rfl (by kernel_rfl) rfl ⟨?_,by have hB1:=((Below.refl w.heap.size w).alloc (Nat.le_refl _) _).trans (hB.mono (by simp));go_grown⟩
  unfold yG;rw[HM.out];rfl
 | false =>
  have HM:=ah hm
  clear hm
  go_enter Tryz.func153,Tryz.ntmps153
  go_wp2_with (go_at_call 154;go_must (refine(JD _ _ _ hb).mono ?_;rintro e w1 ⟨rfl,hB⟩;rw[HM.out];have hc1:=(((hq.alloc _).kept hB).cell b).trans (dV _ b hb);have hx0:=(Box.new _ _ _).kept hB;have hx1:=hx0.cell 0;have hx2:=hx0.cell 1;have hx3:=hx0.free 0;have hx4:=hx0.free 1))
  refine dn Tryz.results153 rfl ((hx0.set 0 _).set 1 _) Tryz.underlying223 rfl (by kernel_rfl) rfl ⟨?_,by have hB1:=((Below.refl w.heap.size w).alloc (Nat.le_refl _) _).trans (hB.mono (by simp));go_grown⟩
  unfold yG;rw[HM.out];rfl
theorem acn(a:Option Addr)(cap:Nat)(l:List au)(w:World)(h:ak w (.slice a l.length cap) 4 encS l) :
  Calls Tryz.prog 120 #[.slice a l.length cap] w (aX w (.tuple #[.agg (aY (bD (RL l))),.int .i64 (iQ (RL l):Nat)])):=by
 obtain⟨b,o,hlen,hcap,hcap',ha,hbl,hcell⟩:=h.sets
 clear hlen h hbl
 have hz:=kC
 have HC:=ah hcell
 clear hcell
 go_enter Tryz.func120,Tryz.ntmps120
 go_wp2_with (first | (refine fC rfl 22 (.tmp 4) (.tmp 11) rfl _ _ rfl rfl rfl (aZ _) (by rw[bf,bf]) (gY _) ?_) | (go_at_call 150;go_must (refine(U4 (fun _=>true) _ (fun b hb w' _=>Zo b w')).mono ?_;rintro e w1 ⟨rfl,hB⟩)))
 have hx0:=(Box.new' (w:=w) rfl (aY fun _=>0) 22).kept hB
 have hB1:=((Below.refl w.heap.size w).alloc (Nat.le_refl _) _).trans (hB.mono (by simp))
 have hsz:w.heap.size<w1.heap.size:=hx0.lt
 have e0:aY (bD (bg fun _=>true))=aY (bD (RL [])):=dU fun i hi=>KT (fun _ _ _ _=>by simp[bg,RL]) hi
 have e1:iQ (bg fun _=>true)=iQ (RL []):=KU (fun _ _ _ _=>by simp[bg,RL])
 rw[e0,e1]
 clear e0 e1
 generalize hq:w1.heap.size=q
 go_loopw [5,15] (fun n i wr=>∃ j:Nat,j≤l.length∧i=.int .i64 j∧n=.int .i64 (iQ (RL (l.take j)):Nat)∧Box wr w.heap.size (aY fun _=>0) 22∧Box wr q (aY (bD (RL (l.take j)))) 22∧Below w.heap.size w wr) (fun _ i _=>l.length - (intOf i).toNat)
 case atStart =>
  subst hq
  exact⟨0,Nat.zero_le _,rfl,rfl,hx0.alloc _,Box.new _ _ _,by go_grown⟩
 case round =>
  obtain⟨j,hj,rfl,rfl,hb0,hb1,hB2⟩:=hrel
  by_cases hlt:j<l.length
  ·obtain rfl:=ha j hlt
   obtain⟨c0,c1,c2,c3⟩:=HC.out j hlt wr hB2
   have e2:l.take (j+1)=l.take j++[l[j]]:=List.take_succ_eq_append_getElem hlt
   have HE:=ah e2
   clear e2 ha
   generalize l[j]=s at *
   have hR:=afQ (l.take j)
   have Xw:=hb0.lt
   have hb1':=hb1.lt
   go_wp2_with (first | (refine wpList_load_row rfl 22 (.tmp 4) rfl q rfl _ _ _ _ (hb1.alloc _) Tryz.underlying22 rfl (aZ _) ?_) | (refine fC rfl 22 (.tmp 8) (.tmp 19) rfl _ _ rfl rfl (by simp) (aZ _) (by rw[bf,bf]) (gY _) ?_) | (refine wpList_store_row rfl 22 (.tmp 4) (.tmp 23) rfl q _ rfl rfl _ _ hx1 (aZ _) (by rw[bf,bf]) (gY _) ?_) | (go_at_call 152;go_must (refine(Zn (yG (RL (l.take j)) s) _ _ _ (fun b hb w' hB'=>Zp (RL (l.take j)) hR s _ _ b w' hb (((Box.new' rfl _ _).alloc _).kept hB') ((Box.new' (World.size_alloc _ _).symm _ _).kept hB'))).mono ?_;rintro e w2 ⟨rfl,hB3⟩;have hx0:=((hb0.alloc _).alloc _).kept hB3;have hx1:=((hb1.alloc _).alloc _).kept hB3;have hB4:=((hB2.alloc (Nat.le_of_lt Xw) _).alloc (by simp;omega) _).trans (hB3.mono (by simp;omega)))))
   have eA:aY (bD (bg (yG (RL (l.take j)) s)))=aY (bD (RL (l.take (j+1)))):=dU fun i hi=>KT (fun b c hb hc=>by rw[IZ hR s hb hc,HE.out,VX]) hi
   have eB:iQ (bg (yG (RL (l.take j)) s))=iQ (RL (l.take (j+1))):=KU (fun b c hb hc=>by rw[IZ hR s hb hc,HE.out,VX])
   rw[eA,eB]
   go_roundw
   case rel=>exact⟨j+1,hlt,by go_num,rfl,hx0.setRow_other _ (by omega),hx1.setRow _,below_setRow hB4 (by omega) _⟩
   case measure=>simp[intOf];omega
  ·obtain rfl:j=l.length:=by omega
   rw[List.take_length] at hb1 ⊢
   go_wp2_with (first | (refine wpList_load_row rfl 22 (.tmp 4) rfl q rfl _ _ _ _ hb1 Tryz.underlying22 rfl (aZ _) ?_) | (refine wpList_store_row rfl 22 (.tmp 2) (.tmp 26) rfl w.heap.size _ rfl rfl _ _ hb0 (aZ _) (by rw[bf,bf]) (gY _) ?_))
   exact fZ Tryz.results120 rfl rfl (hb0.setRow _) Tryz.underlying22 rfl (aZ _) rfl ⟨rfl,below_setRow hB2 (Nat.le_refl _) _⟩
end
section
open Go.RowKit
def bJ(f:Nat→Nat)(b:Nat):Int:=(f b:Nat)
theorem U5(f:Nat→Nat)(p b:Nat)(w:World)(hb:b<256)(hp:Box w p (aY f) 22) :
  Calls Tryz.prog 88 #[.int .i64 b,.pointer (some ⟨p,0,none⟩)] w (aX w (.int .u8 (bJ f b))):=by
 have hc:=(hp.cell b).trans (dV _ b hb)
 go_enter Tryz.func88,Tryz.ntmps88
 go_wp2
 go_ret
 exact⟨rfl,by go_grown⟩
theorem Em(f:Nat→Nat)(w:World) :
  Calls Tryz.prog 60 #[.agg (aY f)] w (aX w (.tuple #[.agg (aY (bD (bg (bJ f)))),.int .i64 (iQ (bg (bJ f)):Nat)])):=by
 have hz:=kC
 go_enter Tryz.func60,Tryz.ntmps60
 go_wp2_with (first | (refine wpList_store_row rfl 22 (.tmp 2) (.tmp 6) rfl _ _ rfl rfl _ _ hx1 (aZ _) (kY _ _) (gY _) ?_) | (go_at_call 87;go_must (refine(Zm (bJ f) _ _ (fun b hb w' hB'=>U5 f w.heap.size b w' hb (((Box.new' rfl _ _).alloc _).kept hB'))).mono ?_;rintro e w1 ⟨rfl,hB⟩;have hx1:=(Box.new' (w:=w.alloc (.cells (aY f) 22)) (World.size_alloc _ _).symm (aY fun _=>0) 22).kept hB)))
 have hB1:=(((Below.refl w.heap.size w).alloc (Nat.le_refl _) (.cells (aY f) 22)).alloc (by simp) (.cells (aY fun _=>0) 22)).trans (hB.mono (by simp;omega))
 exact fZ Tryz.results60 rfl rfl (hx1.setRow _) Tryz.underlying22 rfl (aZ _) rfl ⟨rfl,below_setRow hB1 (by simp) _⟩
theorem U6(f:Nat→Nat)(n:Int)(w:World) :
  Calls Tryz.prog 41 #[.agg (aY f),.int .i64 n] w (aX w (.bool (kJ (bD (bg (bJ f))) f&&((iQ (bg (bJ f)):Nat)==n)))):=by
 have hz:=kC
 have hq:=OZ (P:=Tryz.prog) (t:=22) (e:=5) Tryz.underlying22 Tryz.underlying5 (by kernel_rfl) (bD (bg (bJ f))) f
 have hsz:∀ w1:World,Below (w.alloc (.cells (aY f) 22)).heap.size (w.alloc (.cells (aY f) 22)) w1→Below w.heap.size w (w1.alloc (.cells (aY (bD (bg (bJ f)))) 22)):=fun w1 hB=>(((Below.refl w.heap.size w).alloc (Nat.le_refl _) _).trans (hB.mono (by go_size))).alloc (by have:=hB.size;simp at this;omega) _
 have HS:=ah hsz
 clear hsz
 cases hs:kJ (bD (bg (bJ f))) f with
 | true =>
  rw[hs] at hq
  clear hs
  go_enter Tryz.func41,Tryz.ntmps41
  go_wp2_with (first | (refine wpList_load_row rfl 22 (.tmp 2) rfl _ rfl _ _ _ _ (Box.new _ _ _) Tryz.underlying22 rfl (aZ _) ?_) | (refine fC rfl 22 (.tmp 5) (.tmp 10) rfl _ _ rfl rfl rfl (aZ _) (kY _ _) (gY _) ?_) | (go_at_call 60;go_must (refine(Em f _).mono ?_;rintro e w1 ⟨rfl,hB⟩;have hx0:=(Box.new w (aY f) 22).kept hB)) | (refine wpList_load_row rfl 22 (.tmp 5) rfl _ rfl _ _ _ _ (Box.new _ _ _) Tryz.underlying22 rfl (aZ _) ?_) | (refine wpList_load_row rfl 22 (.tmp 2) rfl _ rfl _ _ _ _ (hx0.alloc _) Tryz.underlying22 rfl (aZ _) ?_))
  go_ret
  exact⟨rfl,HS.out _ hB⟩
 | false =>
  rw[hs] at hq
  clear hs
  go_enter Tryz.func41,Tryz.ntmps41
  go_wp2_with (first | (refine wpList_load_row rfl 22 (.tmp 2) rfl _ rfl _ _ _ _ (Box.new _ _ _) Tryz.underlying22 rfl (aZ _) ?_) | (refine fC rfl 22 (.tmp 5) (.tmp 10) rfl _ _ rfl rfl rfl (aZ _) (kY _ _) (gY _) ?_) | (go_at_call 60;go_must (refine(Em f _).mono ?_;rintro e w1 ⟨rfl,hB⟩;have hx0:=(Box.new w (aY f) 22).kept hB)) | (refine wpList_load_row rfl 22 (.tmp 5) rfl _ rfl _ _ _ _ (Box.new _ _ _) Tryz.underlying22 rfl (aZ _) ?_) | (refine wpList_load_row rfl 22 (.tmp 2) rfl _ rfl _ _ _ _ (hx0.alloc _) Tryz.underlying22 rfl (aZ _) ?_))
  go_ret
  exact⟨rfl,HS.out _ hB⟩
end
section
open Go.RowKit
theorem JG:fG Tryz.prog 184 99 (.agg #[.int .u64 0,.int .u64 0,.int .u64 0,.int .u64 0]) 4 32 :=
 ⟨Tryz.underlying184,info_parts (by kernel_rfl),rfl,by decide⟩
end
section
open Go.RowKit
def lW(R:Nat→Nat→Bool)(n:Nat):List au:=(aJ R 256).map (cls R n)
theorem mQ(R:Nat→Nat→Bool)(n:Nat):(lW R n).length=iQ R:=by rw[lW,List.length_map,nM]
theorem U7(R:Nat→Nat→Bool):lW R 0=List.replicate (iQ R) 0:=by
 rw[lW,nM,←List.map_const']
 refine List.map_congr_left fun c _=>su fun b hb=>?_
 rw[sJ,zY];simp
theorem U8{R:Nat→Nat→Bool}(E:yV R){n:Nat}(hn:n<256)(hk:bD R n<(lW R n).length) :
  lW R (n+1)=(lW R n).set (bD R n) ((lW R n)[bD R n] ||| nS [n]):=by
 have hlen:=mQ R n
 refine List.ext_getElem (by rw[List.length_set,mQ,mQ]) fun i h1 h2=>?_
 rw[List.getElem_set]
 have hi:i<(aJ R 256).length:=by rw[mQ,nM] at h1;exact h1
 have hrep:(aJ R 256)[i]<256:=lT R 256 _ (List.getElem_mem hi)
 have hone:∀ c,mem (nS [n]) c=decide (n=c):=fun c=>by
  rw[VQ _ _ (by intro x hx;simp at hx;omega)];simp[eq_comm]
 have hnum:bD R (aJ R 256)[i]=i:=by
  have h3:=Ed (R:=R) (b:=(aJ R 256)[i]) hi (E.refl _) (fun j hj=>by
   cases h:R (aJ R 256)[i] ((aJ R 256)[j]'(by omega)) with
   | false=>rfl
   | true =>
    have hs:=tV R 256 j i hj hi
    have:=sH E 256 (aJ R 256)[i] ((aJ R 256)[j]'(by omega)) (List.getElem_mem hi) hs
    rw[this] at h;cases h)
  unfold bD;rw[h3];rfl
 have hiff:=Ig E hrep hn
 rw[hnum] at hiff
 simp only[lW,List.getElem_map]
 by_cases hki:bD R n=i
 ·rw[if_pos hki]
  subst hki
  have hR:=hiff.1 rfl
  refine su fun c hc=>?_
  rw[KI,sJ,sJ,hone]
  by_cases hcn:n=c
  ·subst hcn;simp[hc,hR]
  ·have:(c<n+1)↔(c<n):=by omega
   simp[hcn,this]
 ·rw[if_neg hki]
  have hR:R (aJ R 256)[i] n=false:=by
   cases h:R (aJ R 256)[i] n with
   | false=>rfl
   | true=>exact absurd (hiff.2 h).symm hki
  refine su fun c hc=>?_
  rw[sJ,sJ]
  by_cases hcn:c=n
  ·subst hcn;simp[hR]
  ·have:(c<n+1)↔(c<n):=by omega
   simp[this]
def xY(G:Nat→Nat)(B p g m:Nat)(w:World)(L:List au)(w':World):Prop :=
 Box w' p (aY G) 22∧Own w' B 99 4 encS (.slice (some ⟨g,0,none⟩) m m) L∧Below B w w'∧p<g∧B≤g
theorem xY.kept{G:Nat→Nat}{B p g m:Nat}{w w1 w2:World}{L:List au}(h:xY G B p g m w L w1)(hb:Below w1.heap.size w1 w2)(hB:B≤w1.heap.size):xY G B p g m w L w2 :=
 ⟨h.1.kept hb,h.2.1.kept hb,h.2.2.1.trans (hb.mono hB),h.2.2.2⟩
theorem Xx(f:Nat→Nat)(w:World) :
  Calls Tryz.prog 155 #[.agg (aY f)] w (jh w 99 4 encS (lW (bg (bJ f)) 256)):=by
 have hz:=kC
 have hE:=oO (bJ f)
 have hN:=Em f
 have hm:=Ie (bg (bJ f))
 have hlt:=fun n (hn:n<256)=>Ic hE.refl hn
 have h0:=U7 (bg (bJ f))
 have hs:=fun n (hn:n<256) hk=>U8 hE (n:=n) hn hk
 have hl:=mQ (bg (bJ f))
 generalize lW (bg (bJ f))=L at *
 generalize bD (bg (bJ f))=G at *
 generalize iQ (bg (bJ f))=m at *
 have HN:=ah hN
 have H0:=ah h0
 have HS:=ah hs
 have HL:=ah hl
 have HG:=ah hlt
 clear hN h0 hs hl hlt hE
 go_enter Tryz.func155,Tryz.ntmps155
 go_wp2_with (first | (refine wpList_load_row rfl 22 (.tmp 1) rfl _ rfl _ _ _ _ (Box.new _ _ _) Tryz.underlying22 rfl (aZ _) ?_) | (refine fC rfl 22 (.tmp 3) (.tmp 11) rfl _ _ rfl rfl rfl (aZ _) (kY _ _) (gY _) ?_) | (go_at_call 60;go_must (refine(HN.out _).mono ?_;rintro e w1 ⟨rfl,hB⟩)) | (refine vC rfl 184 _ _ rfl JG xu 0 rfl m rfl rfl (by omega) (by simp[maxLen];omega) w.heap.size (by have:=hB.size;simp at this ⊢;omega) ?_;intro w2 ho agQ;have HW:=ah agQ;clear agQ))
 have hw2:=HW.out
 rw[World.size_alloc] at ho
 have hx1:Box w2 w1.heap.size (aY G) 22:=by rw[hw2];exact(Box.new w1 _ _).alloc _
 have hB2:Below w.heap.size w w2:=by
  rw[hw2]
  exact(((((Below.refl w.heap.size w).alloc (Nat.le_refl _) _).trans (hB.mono (by simp))).alloc (by have:=hB.size;simp at this;omega) _).alloc (by have:=hB.size;simp at this ⊢;omega) _)
 have hp:w.heap.size≤w1.heap.size:=by have:=hB.size;simp at this;omega
 have hJ:xY G w.heap.size w1.heap.size (w1.heap.size+1) m w (L 0) w2:=⟨hx1,by rw[H0.out];exact ho,hB2,by omega,by omega⟩
 clear hw2 hx1 hB2 ho hB HW
 generalize w1.heap.size=p at *
 go_loopw [15] (fun i wr=>∃ n:Nat,n≤256∧i=.int .i64 n∧xY G w.heap.size p (p+1) m w (L n) wr) (fun i _=>256 - (intOf i).toNat)
 case atStart=>exact⟨0,Nat.zero_le _,rfl,hJ⟩
 case round =>
  clear hJ
  obtain⟨n,hn,rfl,hJ⟩:=hrel
  by_cases hlt:n<256
  ·have c0:=(hJ.1.cell n).trans (dV _ n hlt)
   have hk:=HG.out n hlt
   have hkl:G n<(L n).length:=by rw[HL.out];exact hk
   have e1:=HS.out n hlt hkl
   have HE:=ah e1
   have hof:=fun a cap w h=>Ii a cap [n] w h (by intro x hx;simp at hx;omega)
   have hcell:=fun w1 (h:xY G w.heap.size p (p+1) m w (L n) w1)=>h.2.1.cells4 hkl
   clear e1
   generalize (L n)[G n]=s at *
   have hcell2:∀ w1,xY G w.heap.size p (p+1) m w (L n) w1→_:=hcell
   generalize nS [n]=s1 at *
   have hun:∀ ad cap w,ak w (.slice ad 2 cap) 4 encS [s,s1]→Calls Tryz.prog 193 #[.slice ad 2 cap] w (aX w (iP (s ||| s1))):=fun ad cap w h=>by have:=Ej ad cap [s,s1] w h;rwa[QW] at this
   generalize s ||| s1=t at *
   generalize G n=k at *
   have hJ0:xY G w.heap.size p (p+1) m w (L n) wr.drew:=hJ.kept (Below.refl _ _).drew (Nat.le_trans hJ.2.2.1.size (Nat.le_refl _))
   have hsz:w.heap.size≤wr.drew.heap.size:=hJ0.2.2.1.size
   have HF:Hid (∀ w1,Later wr.drew w1→xY G w.heap.size p (p+1) m w (L n) w1):=ah fun w1 hl=>hJ0.kept hl hsz
   have EU:=ah hof
   have HUN:=ah hun
   have HC:=ah hcell
   have hu8:IntKind.u8.wrap (n:Int)=(n:Int):=nK n hlt
   have hk0:(0:Int)≤(k:Int):=by omega
   have hkm:(k:Int)<(m:Int):=by omega
   clear hcell2 hcell hof hun hJ hJ0 hkl
   go_wp2_with fail
   refine aA (R:=Later) 13 (by kernel_rfl) ?_
   refine pl [0,1,2,3,4,5,6,7] ?_
   repeat
    refine dB ?_ rfl (fun w1 hl=>?_) ?_
    rotate_left
    ·have hJ:=HF.out w1 hl;obtain⟨⟨q0,q1,q2,q3⟩,_⟩:=HC.out w1 hJ;go_simp;try with_reducible rfl
    simp only[eA,eB,eC,Act.put,eD,eE,eF]
   refine bP ?_
   refine aW (t:=13) (i:=8) (by kernel_rfl) rfl (fun w1 hl K hK=>?_)
   go_simp
   refine hK.out _ _ (fun _=>aj _ _) ?_
   have hL1:Later wr.drew (w1.alloc (.cells #[.int .u8 (n:Nat)] 5)):=Later.trans _ _ _ hl (aj _ _)
   have hs1:=D5 w1 n 5
   clear hK K
   refine zn 9 ?_ ?_ ?_ rfl (fun w1=>?_) (fun w1 hl=>?_) ?_
   rotate_left 4
   ·exact EU.out _ _ _ (hs1.kept hl)
   rotate_left
   ·go_simp
   simp only[eA,eB,eC,Act.put,eD,eE,eF]
   refine aW (t:=13) (i:=10) (by kernel_rfl) rfl (fun w1 hl K hK=>?_)
   go_simp
   refine hK.out _ _ (fun _=>aj _ _) ?_
   have hL2:=Later.trans _ _ _ hL1 (Later.trans _ _ _ hl (aj w1 (.cells #[.int .u64 (word s 0:Nat),.int .u64 (word s 1:Nat),.int .u64 (word s 2:Nat),.int .u64 (word s 3:Nat),.int .u64 (word s1 0:Nat),.int .u64 (word s1 1:Nat),.int .u64 (word s1 2:Nat),.int .u64 (word s1 3:Nat)] 99)))
   have hs2:=NY w1 s s1 99
   clear hK K
   refine zn 11 ?_ ?_ ?_ rfl (fun w1=>?_) (fun w1 hl=>?_) ?_
   rotate_left 4
   ·exact HUN.out _ _ _ (hs2.kept hl)
   rotate_left
   ·go_simp
   simp only[eA,eB,eC,Act.put,eD,eE,eF]
   refine jB 12 ?_ rfl (fun w1 hl=>?_) ?_
   rotate_left
   ·skip;go_simp;try with_reducible rfl
   simp only[eA,eB,eC,Act.put,eD,eE,eF]
   refine aW (t:=13) (i:=13) (by kernel_rfl) rfl (fun w1 hl K hK=>?_)
   have hJ:=HF.out w1 (Later.trans _ _ _ hL2 hl)
   obtain⟨⟨q0,q1,q2,q3⟩,⟨f0,f1,f2,f3⟩⟩:=HC.out w1 hJ
   go_simp
   refine hK.out _ _ (fun h=>absurd rfl h) ?_
   clear hK K q0 q1 q2 q3 f0 f1 f2 f3
   have Zq:xY G w.heap.size p (p+1) m w (L (n+1)) ((((w1.setCell ⟨p+1,k*4,none⟩ (.int .u64 (word t 0:Nat))).setCell ⟨p+1,k*4+1,none⟩ (.int .u64 (word t 1:Nat))).setCell ⟨p+1,k*4+2,none⟩ (.int .u64 (word t 2:Nat))).setCell ⟨p+1,k*4+3,none⟩ (.int .u64 (word t 3:Nat))):=by
    obtain⟨j1,j2,j3,j4,j5⟩:=hJ
    refine⟨j1.abY (by omega) _ _ _ _,?_,Fv j3 j5 _ _ _ _,j4,j5⟩
    rw[HE.out]
    exact j2.eX (by rw[HL.out];exact hk) rfl t
   refine aI (by kernel_rfl) (fun w1 hl=>?_) _
   have hJ5:=Zq.kept hl (by have:=Zq.2.2.1.size;exact this)
   clear hJ Zq
   go_wp2
   go_roundw
   case rel=>exact⟨n+1,hlt,by go_num,hJ5⟩
   case measure=>simp[intOf];omega
  ·obtain rfl:n=256:=by omega
   go_wp2
   go_ret
   exact⟨some ⟨p+1,0,none⟩,m,by rw[HL.out];rfl,by rw[HL.out];exact hJ.2.1,hJ.2.2.1⟩
end
section
open Go.RowKit
end
section
open Go.RowKit
def mM(g:Nat→Bool):Array Value:=((List.range 256).map fun i=>Value.bool (g i)).toArray
theorem qY(g:Nat→Bool):(mM g).size=256:=by simp[mM]
theorem Xy(f g:Nat→Bool):(mM f).size=(mM g).size:=by rw[qY,qY]
theorem JH(g:Nat→Bool)(i:Nat)(h:i<256):(mM g)[i]?=some (.bool (g i)):=by simp[mM,h]
theorem En{f g:Nat→Bool}(h:∀ i,i<256→f i=g i):mM f=mM g:=by
 have e:((List.range 256).map fun i=>Value.bool (f i))=((List.range 256).map fun i=>Value.bool (g i)):=List.map_congr_left fun i hi=>by rw[h i (by simpa using hi)]
 unfold mM;rw[e]
theorem aco(g:Nat→Bool)(k:Nat)(v:Bool):(mM g).setIfInBounds k (.bool v)=mM (fun i=>if i=k then v else g i):=by
 apply Array.ext_getElem?
 intro i
 rw[Array.getElem?_setIfInBounds]
 by_cases hi:i<256
 ·rw[JH _ i hi,JH _ i hi,qY]
  by_cases hk:k=i
  ·subst hk;simp[hi]
  ·have:¬ i=k:=fun e=>hk e.symm
   simp[hk,this]
 ·have h1:(mM fun i=>if i=k then v else g i)[i]?=none:=by rw[Array.getElem?_eq_none];rw[qY];omega
  have h2:(mM g)[i]?=none:=by rw[Array.getElem?_eq_none];rw[qY];omega
  rw[h1,h2,qY]
  by_cases hk:k=i
  ·simp[hk,hi]
  ·simp[hk]
theorem acp(g:Nat→Bool):(mM g).all (·.oneCell')=true:=by
 rw[Array.all_eq_true_iff_forall_mem]
 intro v hv
 simp only[mM,List.mem_toArray,List.mem_map] at hv
 obtain⟨x,_,rfl⟩:=hv
 rfl
theorem Rx(f:Nat→Nat)(a b:Nat):bg (bJ f) a b=true↔f a=f b:=by
 have:(bJ f a=bJ f b)↔f a=f b:=by unfold bJ;omega
 rw[←this];simp[bg]
theorem acr{f:Nat→Nat}(n m:Nat):(aJ (bg (bJ f)) n).any (bg (bJ f) m)=(List.range n).any fun d=>f d==f m:=by
 have E:=oO (bJ f)
 have hK:∀ a b,bg (bJ f) a b=true↔f a=f b:=fun a b=>Rx f a b
 rw[Bool.eq_iff_iff,List.any_eq_true,List.any_eq_true]
 constructor
 ·rintro⟨c,hc,h⟩
  exact⟨c,by simpa using lT _ n c hc,by rw[beq_iff_eq];exact((hK _ _).1 h).symm⟩
 ·rintro⟨d,hd,h⟩
  obtain⟨c,hc,h2⟩:=List.any_eq_true.1 (xw E.refl (show d<n by simpa using hd))
  exact⟨c,hc,E.trans ((hK _ _).2 (beq_iff_eq.1 h).symm) h2⟩
theorem acs{f:Nat→Nat}{n:Nat}(h:((List.range n).any fun d=>f d==f n)=false):(ou fun e=>decide (n≤e)&&(decide (e<256)&&(f e==f n)))=cls (bg (bJ f)) 256 n:=by
 refine su fun d hd=>?_
 rw[pY,sJ]
 have hK:bg (bJ f) n d=(f d==f n):=by rw[Bool.eq_iff_iff,Rx,beq_iff_eq];exact⟨fun h=>h.symm,fun h=>h.symm⟩
 rw[hK]
 by_cases hnd:n≤d
 ·simp[hd,hnd]
 ·have:=List.any_eq_false.1 h d (by simp;omega)
  have h2:(f d==f n)=false:=by simpa using this
  rw[h2];simp
theorem Zr(f:Nat→Nat)(n v:Nat):(if v=f n then true else (List.range n).any fun d=>f d==v)=(List.range (n+1)).any fun d=>f d==v:=by
 rw[List.range_succ,List.any_append]
 by_cases h:v=f n
 ·subst h;simp
 ·have h3:(f n==v)=false:=by rw[beq_eq_false_iff_ne];exact fun e=>h e.symm
  rw[if_neg h,List.any_cons,List.any_nil,h3];simp
attribute [irreducible] mM
theorem O9:(Tryz.prog.info? 229).map (fun i=>(i.zero,i.size))=some (some (.agg (mM fun _=>false)),256):=by kernel_rfl
theorem Zt(f:Nat→Bool):(Tryz.prog.info? 229).map (·.size)=some (mM f).size:=by rw[qY];exact(zero_of_info O9).2
def Zu(f:Nat→Nat)(w wr:World)(v i:Value):Prop :=
 ∃ (n:Nat) (a':Option Addr) (cap':Nat),n≤256∧i=.int .i64 n∧v=.slice a' (aJ (bg (bJ f)) n).length cap'∧Box wr w.heap.size (aY f) 22∧Box wr (w.heap.size+1+1) (mM fun v=>(List.range n).any fun d=>f d==v) 229 ∧
  Own wr (w.heap.size+1) 99 4 encS (.slice a' (aJ (bg (bJ f)) n).length cap') ((aJ (bg (bJ f)) n).map (cls (bg (bJ f)) 256))∧Below w.heap.size w wr
def Zv(f:Nat→Nat)(n q:Nat)(W0 w2:World)(d:Value):Prop :=
 ∃ k:Nat,n≤k∧k≤256∧d=.int .i64 k∧Box w2 q (bV (ou fun e=>decide (n≤e)&&(decide (e<k)&&(f e==f n)))) 99∧Below q W0 w2∧q<w2.heap.size
theorem Xz(f:Nat→Nat)(hf:∀ b,f b<256)(w:World) :
  Calls Tryz.prog 125 #[.agg (aY f)] w (jh w 99 4 encS ((aJ (bg (bJ f)) 256).map (cls (bg (bJ f)) 256))):=by
 have hz:=kC
 have hzb:∀ w,(zeroValue 229).run Tryz.prog w=.ok (.agg (mM fun _=>false)) w:=(zero_of_info O9).1
 have hbd:(Program.built Tryz.prog 229 [])=some (mM fun _=>false):=by kernel_rfl
 go_enter Tryz.func125,Tryz.ntmps125
 go_wp2_with (refine fC rfl 229 (.tmp 4) (.tmp 9) rfl _ _ rfl rfl (by simp) (Zt _) (Xy _ _) (acp _) ?_)
 go_loopw [3,5] (fun v i wr=>Zu f w wr v i) (fun _ i _=>256 - (intOf i).toNat)
 case atStart =>
  refine⟨0,some ⟨w.heap.size+1,0,none⟩,0,Nat.zero_le _,rfl,by rw[OX];rfl,((Box.new' rfl _ _).alloc _).alloc _,?_,?_,by go_grown⟩
  ·rw[En (g:=fun _=>false) (fun i _=>by simp)];exact Box.new' (by simp) _ _
  ·rw[OX]
   have:=(Own.empty (w.alloc (.cells (aY f) 22)) (w.heap.size+1) 99 4 encS (by simp)).alloc (.cells (mM fun _=>false) 229)
   rw[World.size_alloc] at this;exact this
 case round =>
  obtain⟨n,a',cap',hn,rfl,rfl,hb0,hb1,hown,hB⟩:=hrel
  by_cases hlt:n<256
  ·have c0:=(hb0.cell n).trans (dV _ n hlt)
   have hfn:=hf n
   have c1:=(hb1.cell (f n)).trans (JH _ (f n) hfn)
   have hlen:=jX (bg (bJ f)) n
   have hany:=acr (f:=f) n n
   cases hd:((List.range n).any fun d=>f d==f n) with
   | true =>
    rw[hd] at c1 hany
    have e1:aJ (bg (bJ f)) (n+1)=aJ (bg (bJ f)) n:=by rw[jK,if_pos hany]
    have HE:=ah e1
    have HD:=ah hd
    clear e1 hany hd
    go_wp2
    go_roundw
    case rel =>
     refine⟨n+1,a',cap',hlt,by go_num,by rw[HE.out],hb0,?_,by rw[HE.out];exact hown,hB⟩
     rw[En (g:=fun v=>(List.range n).any fun d=>f d==v) (fun v hv=>?_)]
     ·exact hb1
     ·rw[List.range_succ,List.any_append]
      by_cases hv2:f n=v
      ·subst hv2;simp only[HD.out];rfl
      ·simp[hv2]
    case measure=>simp[intOf];omega
   | false =>
    rw[hd] at c1 hany
    have e1:aJ (bg (bJ f)) (n+1)=aJ (bg (bJ f)) n++[n]:=by rw[jK,hany];rfl
    have e2:=acs hd
    have HE:=ah e1
    have HC:=ah e2
    have f1:=hb1.free (f n)
    have hdd:decide ((n:Int)<256)=true:=by simp;omega
    clear e1 e2 hany hd
    go_wp2
    have hsz:(wr.setCell ⟨w.heap.size+1+1,f n,none⟩ (.bool true)).heap.size=wr.heap.size:=World.size_setCell _ _ _
    have Xw:=hb0.other ⟨w.heap.size+1+1,f n,none⟩ (.bool true) (by simp;omega)
    have hb1':=hb1.set (f n) (.bool true)
    rw[aco,En (g:=fun v=>(List.range (n+1)).any fun d=>f d==v) (fun v _=>Zr f n v)] at hb1'
    have hown':=hown.KO hb1 (by decide) (f n) (.bool true)
    have hB':=hB.setCell (p:=⟨w.heap.size+1+1,f n,none⟩) (by simp;omega) (.bool true)
    have hq0:=hb1.lt
    generalize wr.setCell ⟨w.heap.size+1+1,f n,none⟩ (.bool true)=W0 at *
    have Lh:=ah hsz
    obtain⟨q,hq⟩:∃ q,wr.heap.size=q:=⟨_,rfl⟩
    rw[hq] at hsz hq0 ⊢
    have hqw:w.heap.size+1+1<q:=by omega
    clear hb0 hb1 hown hB c0 c1 f1 hq Lh
    go_loopw [7] (fun d w2=>Zv f n q W0 w2 d) (fun d _=>256 - (intOf d).toNat)
    case atStart =>
     refine⟨n,Nat.le_refl _,hn,rfl,?_,(Below.refl _ _).alloc (by omega) _,by simp;omega⟩
     rw[show(ou fun e=>decide (n≤e)&&(decide (e<n)&&(f e==f n)))=0 from(QS 0 _ fun b _=>by rw[zY];by_cases h:n≤b <;> simp[h];omega).symm,gV]
     exact Box.new' hsz.symm _ _
    case round =>
     obtain⟨k,hnk,hk,rfl,hs,hb,hq2⟩:=hrel
     have hx0:=Xw.below hb (by omega)
     by_cases hk2:k<256
     ·have d0:=(hx0.cell k).trans (dV _ k hk2)
      have d1:=(hx0.cell n).trans (dV _ n hlt)
      obtain⟨⟨r0,r1,r2,r3⟩,_⟩:=hs.jE
      by_cases hkn:f k=f n
      ·have hbe:((f k:Int)==(f n:Int))=true:=by rw[beq_iff_eq,hkn]
       have es:(ou fun e=>decide (n≤e)&&(decide (e<k+1)&&(f e==f n)))=nV (ou fun e=>decide (n≤e)&&(decide (e<k)&&(f e==f n))) k:=by
        rw[Y9 _ _ hk2]
        refine Bl fun b _=>?_
        by_cases h1:k=b
        ·subst h1;simp[hnk,hkn]
        ·have:decide (b<k+1)=decide (b<k):=by rw[decide_eq_decide];omega
         simp[h1,this]
       have HES:=ah es
       have HB:=ah hbe
       clear es hkn
       go_wp2_with fail
       go_region
       go_wp2_with (go_at_call 161;go_must (refine(aci _ _ _ hk2).mono ?_;rintro e w5 ⟨rfl,pK⟩;have hs5:=hs.drew.kept pK;obtain⟨⟨t0,t1,t2,t3⟩,⟨g0,g1,g2,g3⟩⟩:=hs5.jE;have pO:=hb.drew.trans (pK.mono (Nat.le_of_lt hq2));have hq5:q<w5.heap.size:=Nat.lt_of_lt_of_le hq2 pK.size))
       go_roundw
       case rel=>exact⟨k+1,by omega,hk2,by go_num,by rw[HES.out];exact hs5.eX rfl _ _ _ _,by go_grown,by simp;exact hq5⟩
       case measure=>simp[intOf];omega
      ·have hbe:((f k:Int)==(f n:Int))=false:=by rw[beq_eq_false_iff_ne];omega
       have es:(ou fun e=>decide (n≤e)&&(decide (e<k+1)&&(f e==f n)))=(ou fun e=>decide (n≤e)&&(decide (e<k)&&(f e==f n))):=by
        refine Bl fun b _=>?_
        by_cases h1:b=k
        ·subst h1;simp[hkn]
        ·have:decide (b<k+1)=decide (b<k):=by rw[decide_eq_decide];omega
         simp[this]
       have HES:=ah es
       have HB:=ah hbe
       clear es hkn
       go_wp2_with fail
       go_region
       go_wp2
       go_roundw
       case rel=>exact⟨k+1,by omega,hk2,by go_num,by rw[HES.out];exact hs.drew,hb.drew,hq2⟩
       case measure=>simp[intOf];omega
     ·obtain rfl:k=256:=by omega
      rw[show(ou fun e=>decide (n≤e)&&(decide (e<256)&&(f e==f n)))=cls (bg (bJ f)) 256 n from HC.out] at hs
      have hx1:=hb1'.below hb hqw
      have hown2:=hown'.kept (hsz▸hb)
      obtain⟨⟨r0,r1,r2,r3⟩,_⟩:=hs.jE
      have hB2:=hB'.trans (hb.mono (by omega))
      go_wp2_with (at_builtin;go_must (refine eU rfl _ _ 184 rfl JG xu rfl (hown2.alloc _) ⟨wr.heap.size,0,none⟩ 1 (cls (bg (bJ f)) 256 n) rfl ?_ ?_ ?_ ?_ ?_))
      ·exact dA wr _ _
      ·simp[maxLen];omega
      ·simp;omega
      ·have:=hB2.size;simp;omega
      intro a2 cap2 w6 hown6 acu
      have bF:=below_grown (hB2.alloc hB2.size _) (hown2.alloc _) acu (by omega) (by have:=hB2.size;simp;omega)
      have hy0:=(hx1.alloc (.cells (bV (cls (bg (bJ f)) 256 n)) 99)).lV (hown2.alloc _) acu (by decide)
      have hy1:=((Xw.below hb (by omega)).alloc (.cells (bV (cls (bg (bJ f)) 256 n)) 99)).lV (hown2.alloc _) acu (by decide)
      go_wp2
      go_roundw
      case rel =>
       refine⟨n+1,a2,cap2,hlt,by go_num,?_,hy1,hy0,?_,bF⟩
       ·rw[HE.out];simp
       ·rw[HE.out,List.map_append]
        rw[List.length_append];simpa using hown6
      case measure=>simp[intOf];omega
  ·obtain rfl:n=256:=by omega
   go_wp2
   go_ret
   refine⟨a',cap',?_,?_,hB⟩
   ·rw[List.length_map];rfl
   ·rw[List.length_map];exact hown.mono (by omega)
end
section
open Go.RowKit
theorem Zw(x a1 b1 a2 b2 c r:Nat)(w:World)
  (ha1:bits BinOp.and IntKind.u64 ((x:Int) / 2) 6148914691236517205=(a1:Int)) (hb1:bits BinOp.and IntKind.u64 (x:Int) 6148914691236517205=(b1:Int)) (h1:a1+b1<18446744073709551616)
  (ha2:bits BinOp.and IntKind.u64 (((a1:Int)+(b1:Int)) / 4) 3689348814741910323=(a2:Int)) (hb2:bits BinOp.and IntKind.u64 ((a1:Int)+(b1:Int)) 3689348814741910323=(b2:Int)) (h2:(a2+b2) / 16+(a2+b2)<18446744073709551616)
  (hc:bits BinOp.and IntKind.u64 (((a2:Int)+(b2:Int)) / 16+((a2:Int)+(b2:Int))) 1085102592571150095=(c:Int)) (h3:c≤578721382704613384)
  (hr:bits BinOp.and IntKind.i64 ((c:Int)+(c:Int) / 256+((c:Int)+(c:Int) / 256) / 65536+((c:Int)+(c:Int) / 256+((c:Int)+(c:Int) / 256) / 65536) / 4294967296) 127=(r:Int)) :
  Calls Tryz.prog 136 #[.int .u64 x] w fun e w'=>e=.returned (.int .i64 r)∧w'=w:=by
 go_enter Tryz.func136,Tryz.ntmps136
 go_wp2
 go_ret
 exact⟨rfl,rfl⟩
theorem VY(x d M:Nat)(hx:x<18446744073709551616)(hM:M<18446744073709551616):bits BinOp.and IntKind.u64 ((x:Int) / (d:Int)) (M:Int)=((x / d &&& M:Nat):Int):=by
 rw[←Int.natCast_ediv];exact bits_and_u64_nat _ _ (Nat.lt_of_le_of_lt (Nat.div_le_self _ _) hx) hM
theorem agS(x:Nat)(hx:x<18446744073709551616)(w:World) :
  Calls Tryz.prog 136 #[.int .u64 x] w fun e w'=>e=.returned (.int .i64 ((jG x).length:Nat))∧w'=w:=by
 obtain⟨h3,hs⟩:=ab7 x
 have hp1:x / 2 &&& 6148914691236517205≤6148914691236517205:=Nat.and_le_right
 have hp2:x &&& 6148914691236517205≤6148914691236517205:=Nat.and_le_right
 have hq1:jv x / 4 &&& 3689348814741910323≤3689348814741910323:=Nat.and_le_right
 have hq2:jv x &&& 3689348814741910323≤3689348814741910323:=Nat.and_le_right
 have hb1:jv x<18446744073709551616:=by unfold jv;omega
 have hb2:mJ (jv x) / 16+mJ (jv x)<18446744073709551616:=by unfold mJ;omega
 have c1:(((x / 2 &&& 6148914691236517205:Nat):Int)+((x &&& 6148914691236517205:Nat):Int))=((jv x:Nat):Int):=by unfold jv;omega
 have c2:(((jv x / 4 &&& 3689348814741910323:Nat):Int)+((jv x &&& 3689348814741910323:Nat):Int))=((mJ (jv x):Nat):Int):=by unfold mJ;omega
 refine Zw x (x / 2 &&& 6148914691236517205) (x &&& 6148914691236517205) (jv x / 4 &&& 3689348814741910323) (jv x &&& 3689348814741910323) (xB (mJ (jv x))) _ w
  (VY x 2 6148914691236517205 hx (by decide)) (bits_and_u64_nat x 6148914691236517205 hx (by decide)) hb1 ?_ ?_ hb2 ?_ h3 ?_
 ·rw[c1];exact VY _ 4 3689348814741910323 hb1 (by decide)
 ·rw[c1];exact bits_and_u64_nat _ 3689348814741910323 hb1 (by decide)
 ·rw[c2,show((mJ (jv x):Nat):Int) / 16+((mJ (jv x):Nat):Int)=((mJ (jv x) / 16+mJ (jv x):Nat):Int) by omega]
  exact bits_and_u64_nat _ 1085102592571150095 hb2 (by decide)
 ·rw[i64_and127,←hs]
  generalize xB (mJ (jv x))=c
  omega
def FK(s:au):Nat→Nat
 | 0=>0
 | j+1=>FK s j+(jG (word s j)).length
theorem VZ(s:au):∀ j,FK s j≤64*j
 | 0=>Nat.le_refl _
 | j+1=>by
  have h:=VZ s j
  have h2:(jG (word s j)).length≤64:=by have:=List.length_filter_le (fun i=>(word s j).testBit i) (List.range 64);simpa [jG] using this
  simp only[FK];omega
theorem XA(s:au):FK s 4=(elems s).length:=by
 rw[IW];simp[FK,zF,jY];omega
theorem Lj(s:au)(w:World):Calls Tryz.prog 100 #[.agg (bV s)] w (aX w (.int .i64 ((elems s).length:Nat))):=by
 rw[←XA]
 go_enter Tryz.func100,Tryz.ntmps100
 go_wp2
 go_loopw [3,7] (fun n i wr=>∃ j:Nat,j≤4∧i=.int .i64 j∧n=.int .i64 (FK s j:Nat)∧Below w.heap.size w wr) (fun _ i _=>4 - (intOf i).toNat)
 case atStart=>exact⟨0,Nat.zero_le _,rfl,rfl,by go_grown⟩
 case round =>
  obtain⟨j,hj,rfl,rfl,hB⟩:=hrel
  by_cases hlt:j<4
  ·have gw:=BF s j hlt
   have hle:=VZ s j
   have hO:=agS (word s j) (word_lt s j)
   have hst:FK s (j+1)=FK s j+(jG (word s j)).length:=rfl
   have hle2:(jG (word s j)).length≤64:=by have:=List.length_filter_le (fun i=>(word s j).testBit i) (List.range 64);simpa [jG] using this
   have HO:=ah hO
   clear hO
   generalize (jG (word s j)).length=m at *
   go_wp2_with (go_at_call 136;go_must (refine(HO.out _).mono ?_;rintro e w1 ⟨rfl,rfl⟩))
   go_roundw
   case rel=>exact⟨j+1,hlt,by go_num,by rw[hst];go_num,hB⟩
   case measure=>simp[intOf];omega
  ·obtain rfl:j=4:=by omega
   go_wp2
   go_ret
   exact⟨rfl,hB⟩
end
end Go.Proofs.YtaoinbjjolikhaaGreatDoor
