/- The texts of B40, in few letters (mini.py). -/
import Derived.Test.YtaoinbjjolikhaaGreatDoorM35
set_option linter.unusedVariables false
set_option linter.unusedSimpArgs false
set_option maxRecDepth 20000
set_option maxHeartbeats 3200000
namespace Go.Proofs.YtaoinbjjolikhaaGreatDoor
open Go.RowKit
theorem Ql(D:aT)(t:List UInt8)(p:Nat):∃ (a b c:Int) (o:Bool),pG D t p=.tuple #[.agg #[.int .i64 a,.int .i64 b,.int .i64 c],.bool o]:=by
 unfold pG
 cases kU D t p with
 | none=>exact⟨0,0,0,false,rfl⟩
 | some r=>exact⟨r.1,p,r.2,true,rfl⟩
theorem Xi(V:aG)(D:aT)(t:List UInt8)(ta:Option Addr)(tn tc:Nat)(p:Int)(w:World)(h:dS w V D)(hl:∀ x∈D.names,x.length≤9223372036854775807)(hT:ak w (.slice ta tn tc) 1 bQ t)(htl:t.length≤1099511627776) :
  Calls Tryz.prog 14 #[.agg V.cells,.slice ta tn tc,.int .i64 p] w (aX w (oq D t p)):=by
 have hbx:=Box.new w V.cells 27
 have hB0:=aj w (.cells V.cells 27)
 have hby:Box ((w.alloc (.cells V.cells 27)).alloc (.cells #[.int .i64 0,.int .i64 0,.int .i64 0] 37)) (w.heap.size+1) #[.int .i64 0,.int .i64 0,.int .i64 0] 37:=Box.new' (World.size_alloc _ _).symm _ _
 have hB1:Below w.heap.size w ((w.alloc (.cells V.cells 27)).alloc (.cells #[.int .i64 0,.int .i64 0,.int .i64 0] 37)):=hB0.alloc hB0.size _
 have dJ:=hbx.kept (aj (w.alloc (.cells V.cells 27)) (.cells #[.int .i64 0,.int .i64 0,.int .i64 0] 37))
 have htn:=hT.dG (f:=fun x:UInt8=>Value.int .u8 (x.toNat:Nat))
 obtain⟨_,_,htn,_⟩:=htn
 subst htn
 have HR:=ah (fun u hu=>rM V D u (h.kept hu) hl)
 have pI:fH D=false∨p<0∨(t.length:Int)<p→oq D t p=NH:=fun hh=>by
  unfold oq
  refine if_neg ?_
  rintro⟨h1,h2,h3⟩
  rcases hh with hh | hh | hh
  ·rw[hh] at h1;cases h1
  ·omega
  ·omega
 by_cases hr:fH D=true
 ·by_cases hp0:p<0
  ·have e1:decide (p<0)=true:=decide_eq_true hp0
   have uJ:=ah (pI (.inr (.inl hp0)))
   rw[hr] at HR
   clear h hl hr hT pI hbx hB0
   go_enter Tryz.func14,Tryz.ntmps14
   go_wp2_with (first | (refine aC (by rfl) 27 _ rfl w.heap.size rfl _ _ _ _ dJ Tryz.underlying27 rfl (aQ _) ?_) | (go_at_call 20;go_must (refine(HR.out _ hB1).mono ?_;rintro e w2 ⟨rfl,hb2⟩;have hB2:=hB1.trans (hb2.mono hB1.size);have dw:=hby.kept hb2;have y0:w2.cell? ⟨w.heap.size+1,0,none⟩=some (.int .i64 0):=dw.cell 0;have y1:w2.cell? ⟨w.heap.size+1,1,none⟩=some (.int .i64 0):=dw.cell 1;have y2:w2.cell? ⟨w.heap.size+1,2,none⟩=some (.int .i64 0):=dw.cell 2;have f0:=dw.free 0;have f1:=dw.free 1;have f2:=dw.free 2;have ly:=dw.lt;have jy:=ah (((dw.set 0 (.int .i64 0)).set 1 (.int .i64 0)).set 2 (.int .i64 0)))))
   refine bodyPost_ret (bK rfl _ _ (w.heap.size+1) 37 _ (.bool false) rfl rfl jy.out Tryz.underlying37 rfl (by kernel_rfl)) rfl ?_
   exact⟨by rw[uJ.out];rfl,((hB2.setCell (by simp) _).setCell (by simp) _).setCell (by simp) _⟩
  ·by_cases hp1:(t.length:Int)<p
   ·have e1:decide (p<0)=false:=decide_eq_false hp0
    have e2:decide ((t.length:Int)<p)=true:=decide_eq_true hp1
    have uJ:=ah (pI (.inr (.inr hp1)))
    rw[hr] at HR
    clear h hl hr hT pI hbx hB0
    go_enter Tryz.func14,Tryz.ntmps14
    go_wp2_with (first | (refine aC (by rfl) 27 _ rfl w.heap.size rfl _ _ _ _ dJ Tryz.underlying27 rfl (aQ _) ?_) | (go_at_call 20;go_must (refine(HR.out _ hB1).mono ?_;rintro e w2 ⟨rfl,hb2⟩;have hB2:=hB1.trans (hb2.mono hB1.size);have dw:=hby.kept hb2;have y0:w2.cell? ⟨w.heap.size+1,0,none⟩=some (.int .i64 0):=dw.cell 0;have y1:w2.cell? ⟨w.heap.size+1,1,none⟩=some (.int .i64 0):=dw.cell 1;have y2:w2.cell? ⟨w.heap.size+1,2,none⟩=some (.int .i64 0):=dw.cell 2;have f0:=dw.free 0;have f1:=dw.free 1;have f2:=dw.free 2;have ly:=dw.lt;have jy:=ah (((dw.set 0 (.int .i64 0)).set 1 (.int .i64 0)).set 2 (.int .i64 0)))))
    refine bodyPost_ret (bK rfl _ _ (w.heap.size+1) 37 _ (.bool false) rfl rfl jy.out Tryz.underlying37 rfl (by kernel_rfl)) rfl ?_
    exact⟨by rw[uJ.out];rfl,((hB2.setCell (by simp) _).setCell (by simp) _).setCell (by simp) _⟩
   ·have hw:=AX hr
    obtain⟨n,wd,lb,lo,nb,no,rb,ro,rc,hm⟩:=machC h hw
    have HC:=ah (fun u hu=>Hu V D u (h.kept hu) hl hr)
    obtain⟨at_,rfl⟩:∃ k:Nat,p=(k:Nat):=⟨p.toNat,by omega⟩
    have hret:oq D t (at_:Nat)=pG D t at_:=by
     unfold oq
     rw[if_pos ⟨hr,by omega,by omega⟩,Int.toNat_natCast]
    rw[hret]
    have hat:at_≤t.length:=by omega
    have HN:=ah (fun(b2 cb vb:Nat) (u:World) hu (hC:xQ u b2 cb vb V n (pF D))=>Xf b2 cb vb V D w u hw h.1 n wd lb lo nb no rb ro rc hm hu hC t ta t.length tc at_ (hT.kept hu) hat htl)
    obtain⟨k0,k1,k2,kb,hf⟩:=Ql D t at_
    rw[hf] at HN ⊢
    have HM:=ah hm.nl
    rw[hr] at HR
    have e1:decide ((at_:Int)<0)=false:=decide_eq_false (by omega)
    have e2:decide ((t.length:Int)<(at_:Int))=false:=decide_eq_false (by omega)
    clear h hl hr hT pI hbx hB0 hm hw hret hf hp0 hp1
    go_enter Tryz.func14,Tryz.ntmps14
    go_wp2_with (first | (refine aC (by rfl) 27 _ rfl w.heap.size rfl _ _ _ _ dJ Tryz.underlying27 rfl (aQ _) ?_) | (go_at_call 20;go_must (refine(HR.out _ hB1).mono ?_;rintro e w2 ⟨rfl,hb2⟩;have hB2:=hB1.trans (hb2.mono hB1.size);have hbx2:=dJ.kept hb2;have dw:=hby.kept hb2)) | (refine aC (by rfl) 27 _ rfl w.heap.size rfl _ _ _ _ hbx2 Tryz.underlying27 rfl (aQ _) ?_) | (go_at_call 37;go_must (refine(HC.out _ hB2).mono ?_;rintro e w3 ⟨cb,vb,rfl,Jr,hb3⟩;rw[HM.out] at Jr;have hB3:=hB2.trans (hb3.mono hB2.size);have anx:=dw.kept hb3;have NC:=ah Jr;clear Jr)) | (go_at_call 38;go_must (refine(HN.out _ _ _ _ hB3 NC.out).mono ?_;rintro e w4 ⟨rfl,hb4⟩;have hB4:=hB3.trans (hb4.mono hB3.size);have Hz:=anx.kept hb4;have y0:w4.cell? ⟨w.heap.size+1,0,none⟩=some (.int .i64 0):=Hz.cell 0;have y1:w4.cell? ⟨w.heap.size+1,1,none⟩=some (.int .i64 0):=Hz.cell 1;have y2:w4.cell? ⟨w.heap.size+1,2,none⟩=some (.int .i64 0):=Hz.cell 2;have f0:=Hz.free 0;have f1:=Hz.free 1;have f2:=Hz.free 2;have ly:=Hz.lt;have jy:=ah (((Hz.set 0 (.int .i64 k0)).set 1 (.int .i64 k1)).set 2 (.int .i64 k2)))))
    refine bodyPost_ret (bK rfl _ _ (w.heap.size+1) 37 _ (.bool kb) rfl rfl jy.out Tryz.underlying37 rfl (by kernel_rfl)) rfl ?_
    exact⟨rfl,((hB4.setCell (by simp) _).setCell (by simp) _).setCell (by simp) _⟩
 ·have uJ:=ah (pI (.inl (by simpa using hr)))
  rw[show fH D=false by simpa using hr] at HR
  clear h hl hr hT pI hbx hB0
  go_enter Tryz.func14,Tryz.ntmps14
  go_wp2_with (first | (refine aC (by rfl) 27 _ rfl w.heap.size rfl _ _ _ _ dJ Tryz.underlying27 rfl (aQ _) ?_) | (go_at_call 20;go_must (refine(HR.out _ hB1).mono ?_;rintro e w2 ⟨rfl,hb2⟩;have hB2:=hB1.trans (hb2.mono hB1.size);have dw:=hby.kept hb2;have y0:w2.cell? ⟨w.heap.size+1,0,none⟩=some (.int .i64 0):=dw.cell 0;have y1:w2.cell? ⟨w.heap.size+1,1,none⟩=some (.int .i64 0):=dw.cell 1;have y2:w2.cell? ⟨w.heap.size+1,2,none⟩=some (.int .i64 0):=dw.cell 2;have f0:=dw.free 0;have f1:=dw.free 1;have f2:=dw.free 2;have ly:=dw.lt;have jy:=ah (((dw.set 0 (.int .i64 0)).set 1 (.int .i64 0)).set 2 (.int .i64 0)))))
  refine bodyPost_ret (bK rfl _ _ (w.heap.size+1) 37 _ (.bool false) rfl rfl jy.out Tryz.underlying37 rfl (by kernel_rfl)) rfl ?_
  exact⟨by rw[uJ.out];rfl,((hB2.setCell (by simp) _).setCell (by simp) _).setCell (by simp) _⟩
end Go.Proofs.YtaoinbjjolikhaaGreatDoor
