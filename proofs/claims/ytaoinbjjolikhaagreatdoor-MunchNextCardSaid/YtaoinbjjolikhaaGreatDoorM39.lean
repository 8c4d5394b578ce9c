/- The texts of B39, in few letters (mini.py). -/
import Derived.Test.YtaoinbjjolikhaaGreatDoorM35
import Derived.Test.YtaoinbjjolikhaaGreatDoorM38
set_option linter.unusedVariables false
set_option linter.unusedSimpArgs false
set_option maxRecDepth 20000
set_option maxHeartbeats 3200000
namespace Go.Proofs.YtaoinbjjolikhaaGreatDoor
open Go.RowKit
theorem NK(V:aG)(D:aT)(t:List UInt8)(ta:Option Addr)(tn tc:Nat)(p:Int)(w:World)(h:dS w V D)(hof:∀ b,V.of b<256)(hl:∀ x∈D.names,x.length≤9223372036854775807)(hT:ak w (.slice ta tn tc) 1 bQ t) :
  Calls Tryz.prog 15 #[.agg V.cells,.slice ta tn tc,.int .i64 p] w (aX w (oq D t p)):=by
 have hbx:=Box.new w V.cells 27
 have hB0:=aj w (.cells V.cells 27)
 have hby:Box ((w.alloc (.cells V.cells 27)).alloc (.cells #[.int .i64 0,.int .i64 0,.int .i64 0] 37)) (w.heap.size+1) #[.int .i64 0,.int .i64 0,.int .i64 0] 37:=Box.new' (World.size_alloc _ _).symm _ _
 have hB1:Below w.heap.size w ((w.alloc (.cells V.cells 27)).alloc (.cells #[.int .i64 0,.int .i64 0,.int .i64 0] 37)):=hB0.alloc hB0.size _
 have dJ:=hbx.kept (aj (w.alloc (.cells V.cells 27)) (.cells #[.int .i64 0,.int .i64 0,.int .i64 0] 37))
 obtain⟨tb,zC,htn,htc,YW,hta,htx⟩:=ak.dG (f:=fun x:UInt8=>Value.int .u8 (x.toNat:Nat)) hT
 subst htn
 have HR:=ah (fun u hu=>Dl V D u (h.kept hu) hof hl)
 have pI:fH D=false∨p<0∨(t.length:Int)<p→oq D t p=NH:=fun hh=>by
  unfold oq
  refine if_neg ?_
  rintro⟨h1,h2,h3⟩
  rcases hh with hh | hh | hh
  ·rw[hh] at h1;cases h1
  ·omega
  ·omega
 by_cases hr:fH D=true
 ·by_cases hp0:p<0
  ·have e1:decide (p<0)=true:=decide_eq_true hp0
   have uJ:=ah (pI (.inr (.inl hp0)))
   rw[hr] at HR
   clear h hl hr hT pI hbx hB0 hta htx
   go_enter Tryz.func15,Tryz.ntmps15
   go_wp2_with (first | (refine aC (by rfl) 27 _ rfl w.heap.size rfl _ _ _ _ dJ Tryz.underlying27 rfl (aQ _) ?_) | (go_at_call 39;go_must (refine(HR.out _ hB1).mono ?_;rintro e w2 ⟨rfl,hb2⟩;have hB2:=hB1.trans (hb2.mono hB1.size);have dw:=hby.kept hb2;have y0:w2.cell? ⟨w.heap.size+1,0,none⟩=some (.int .i64 0):=dw.cell 0;have y1:w2.cell? ⟨w.heap.size+1,1,none⟩=some (.int .i64 0):=dw.cell 1;have y2:w2.cell? ⟨w.heap.size+1,2,none⟩=some (.int .i64 0):=dw.cell 2;have f0:=dw.free 0;have f1:=dw.free 1;have f2:=dw.free 2;have ly:=dw.lt;have jy:=ah (((dw.set 0 (.int .i64 0)).set 1 (.int .i64 0)).set 2 (.int .i64 0)))))
   refine bodyPost_ret (bK rfl _ _ (w.heap.size+1) 37 _ (.bool false) rfl rfl jy.out Tryz.underlying37 rfl (by kernel_rfl)) rfl ?_
   exact⟨by rw[uJ.out];rfl,((hB2.setCell (by simp) _).setCell (by simp) _).setCell (by simp) _⟩
  ·by_cases hp1:(t.length:Int)<p
   ·have e1:decide (p<0)=false:=decide_eq_false hp0
    have e2:decide ((t.length:Int)<p)=true:=decide_eq_true hp1
    have uJ:=ah (pI (.inr (.inr hp1)))
    rw[hr] at HR
    clear h hl hr hT pI hbx hB0 hta htx
    go_enter Tryz.func15,Tryz.ntmps15
    go_wp2_with (first | (refine aC (by rfl) 27 _ rfl w.heap.size rfl _ _ _ _ dJ Tryz.underlying27 rfl (aQ _) ?_) | (go_at_call 39;go_must (refine(HR.out _ hB1).mono ?_;rintro e w2 ⟨rfl,hb2⟩;have hB2:=hB1.trans (hb2.mono hB1.size);have dw:=hby.kept hb2;have y0:w2.cell? ⟨w.heap.size+1,0,none⟩=some (.int .i64 0):=dw.cell 0;have y1:w2.cell? ⟨w.heap.size+1,1,none⟩=some (.int .i64 0):=dw.cell 1;have y2:w2.cell? ⟨w.heap.size+1,2,none⟩=some (.int .i64 0):=dw.cell 2;have f0:=dw.free 0;have f1:=dw.free 1;have f2:=dw.free 2;have ly:=dw.lt;have jy:=ah (((dw.set 0 (.int .i64 0)).set 1 (.int .i64 0)).set 2 (.int .i64 0)))))
    refine bodyPost_ret (bK rfl _ _ (w.heap.size+1) 37 _ (.bool false) rfl rfl jy.out Tryz.underlying37 rfl (by kernel_rfl)) rfl ?_
    exact⟨by rw[uJ.out];rfl,((hB2.setCell (by simp) _).setCell (by simp) _).setCell (by simp) _⟩
   ·have hw:=AX hr
    obtain⟨n,wd,lb,lo,nb,no,rb,ro,rc,hm⟩:=machC h hw
    obtain⟨at_,rfl⟩:∃ k:Nat,p=(k:Nat):=⟨p.toNat,by omega⟩
    have hret:oq D t (at_:Nat)=pG D t at_:=by
     unfold oq
     rw[if_pos ⟨hr,by omega,by omega⟩,Int.toNat_natCast]
    rw[hret]
    have hat:at_≤t.length:=by omega
    have HM:=ah hm;have HV:=ah h.1;have HT:=ah hT;have Js:=ah hta
    rw[hr] at HR
    have e1:decide ((at_:Int)<0)=false:=decide_eq_false (by omega)
    have e2:decide ((t.length:Int)<(at_:Int))=false:=decide_eq_false (by omega)
    obtain⟨m,hmm⟩:∃ m,t.length=m:=⟨_,rfl⟩
    have xq:=ah hmm
    rw[hmm] at hat htc e2 ⊢
    have e3:decide (m<at_)=false:=decide_eq_false (by omega)
    clear h hl hr hT pI hbx hB0 hm hw hret hp0 hp1 hta htx hof hmm
    go_enter Tryz.func15,Tryz.ntmps15
    go_wp2_with (first | (refine aC (by rfl) 27 _ rfl w.heap.size rfl _ _ _ _ dJ Tryz.underlying27 rfl (aQ _) ?_) | (go_at_call 39;go_must (refine(HR.out _ hB1).mono ?_;rintro e w2 ⟨rfl,hb2⟩)))
    have hB2:=hB1.trans (hb2.mono hB1.size)
    have hbx2:=dJ.kept hb2
    have dw:=hby.kept hb2
    have HB2:=ah hB2;have wK:=ah hbx2;have HY2:=ah dw
    clear hB2 hbx2 dw hb2 dJ hby hB1 HR
    go_loopw [8] (fun v8 wr=>∃ e:Nat,at_≤e∧e≤m∧v8=.int .i64 e∧Below w2.heap.size w2 wr∧∀ q,e<q→q≤t.length→labS D (dH D 0 ((t.drop at_).take (q - at_)))=0) (fun v8 _=>(intOf v8).toNat)
    case atStart=>exact⟨m,hat,Nat.le_refl _,rfl,Below.refl _ _,fun q h1 h2=>by rw[xq.out] at h2;omega⟩
    case round =>
     obtain⟨e,he1,he2,rfl,hBr,hno⟩:=hrel
     have hBw:Below w.heap.size w wr:=HB2.out.trans (hBr.mono HB2.out.size)
     have hx:=wK.out.kept hBr
     have hy:=HY2.out.kept hBr
     by_cases hlt:at_<e
     ·obtain rfl:=Js.out 0 (by rw[xq.out];omega)
      have hne:¬ (tc=at_):=by omega
      have hai:(at_:Int)<(e:Int):=by omega
      have ha0:(0:Int)≤(at_:Int):=by omega
      have hei:(e:Int)≤(tc:Int):=by omega
      have hDr:Below wr.heap.size wr wr.drew:=(Below.refl _ _).drew
      obtain⟨L,hL⟩:∃ L,labS D (dH D 0 ((t.drop at_).take (e - at_)))=L:=⟨_,rfl⟩
      have aeA:Option.map (fun x:Addr=>x.add at_) (some ⟨tb,zC,none⟩)=some ⟨tb,zC+at_,none⟩:=by simp[Addr.add]
      have HF:Hid (∀ u,Later wr.drew u→Box u w.heap.size V.cells 27∧Calls Tryz.prog 40 #[.agg V.cells,.slice (some ⟨tb,zC+at_,none⟩) (e - at_) (tc - at_)] u (aX u (.int .i64 L))∧Below wr.heap.size wr u):=ah fun u hu=>by
       have h1:Below wr.heap.size wr u:=hDr.trans (hu.mono hDr.size)
       have h2:Below w.heap.size w u:=hBw.trans (h1.mono hBw.size)
       have hs:=(HT.out.kept h2).sub (f:=fun x:UInt8=>Value.int .u8 (x.toNat:Nat)) at_ (e - at_) (by rw[xq.out];omega)
       rw[show Ah tb zC tc at_=some ⟨tb,zC+at_,none⟩ from if_neg (by omega)] at hs
       have:=Y5 V D w u HV.out n wd lb lo nb no rb ro rc HM.out h2 _ _ _ _ hs
       rw[hL] at this
       exact⟨hx.kept h1,this,h1⟩
      have Fg:=ah hBr;have HY:=ah hy;have HNO:=ah hno;have HL:=ah hL;have iG:=ah hBw
      clear hBr hBw hx hy hno hL hDr
      go_wp2_with fail
      refine aA (R:=Later) 7 (by kernel_rfl) ?_
      refine oZ (t:=7) (i:=0) rfl (by kernel_rfl) (by kernel_rfl) (by kernel_rfl) (by kernel_rfl) (fun _ _ _ h=>h) (by rfl) (fun w1 hl=>iE 27 _ rfl _ rfl ((HF.out w1 hl).1) Tryz.underlying27 rfl (aQ V)) ?_
      simp only[eA,eB,Act.put,eD,eE,eF]
      refine pl [1,2,3,4] ?_
      repeat
       refine dB ?_ rfl (fun w1 hl=>?_) ?_
       rotate_left
       ·skip;go_simp;try with_reducible rfl
       simp only[eA,eB,eC,Act.put,eD,eE,eF]
      refine bP ?_
      refine zn 5 ?_ ?_ ?_ rfl (fun w1=>?_) (fun w1 hl=>?_) ?_
      rotate_left 4
      ·exact(HF.out w1 hl).2.1
      rotate_left
      ·go_simp
      simp only[eA,eB,eC,Act.put,eD,eE,eF]
      refine jB 6 ?_ rfl (fun w1 hl=>?_) ?_
      rotate_left
      ·skip;go_simp;try with_reducible rfl
      simp only[eA,eB,eC,Act.put,eD,eE,eF]
      refine aI (by kernel_rfl) (fun w1 hl=>?_) _
      have hq:=(HF.out w1 hl).2.2
      clear HF hl
      by_cases hz:L=0
      ·have hz2:(L != 0)=false:=by simp[hz]
       go_wp2
       refine⟨⟨e - 1,by omega,by omega,by rw[show((e:Int) - 1)=((e - 1:Nat):Int) by omega],Fg.out.trans (hq.mono Fg.out.size),fun q h1 h2=>?_⟩,by simp[intOf];omega⟩
       by_cases hqe:q=e
       ·rw[hqe,HL.out,hz]
       ·exact HNO.out q (by omega) h2
      ·have hz2:(L != 0)=true:=by simp[hz]
       have hy4:=HY.out.kept hq
       have y0:w1.cell? ⟨w.heap.size+1,0,none⟩=some (.int .i64 0):=hy4.cell 0
       have y1:w1.cell? ⟨w.heap.size+1,1,none⟩=some (.int .i64 0):=hy4.cell 1
       have y2:w1.cell? ⟨w.heap.size+1,2,none⟩=some (.int .i64 0):=hy4.cell 2
       have f0:=hy4.free 0
       have f1:=hy4.free 1
       have f2:=hy4.free 2
       have ly:=hy4.lt
       have jy:=ah (((hy4.set 0 (.int .i64 L)).set 1 (.int .i64 at_)).set 2 (.int .i64 e))
       have hB4:=iG.out.trans (hq.mono iG.out.size)
       have hret:pG D t at_=.tuple #[.agg (nR L at_ e),.bool true]:=by
        unfold pG
        rw[agG hlt (by rw[xq.out];exact he2) HL.out hz HNO.out]
       have uJ:=ah hret
       clear hret
       go_wp2
       refine bodyPost_ret (bK rfl _ _ (w.heap.size+1) 37 _ (.bool true) rfl rfl jy.out Tryz.underlying37 rfl (by kernel_rfl)) rfl ?_
       exact⟨by rw[uJ.out];rfl,((hB4.setCell (by simp) _).setCell (by simp) _).setCell (by simp) _⟩
     ·have hle:decide ((at_:Int)<(e:Int))=false:=decide_eq_false (by omega)
      have hret:pG D t at_=NH:=by
       unfold pG
       rw[aew fun q h1 h2=>hno q (by omega) h2]
      have uJ:=ah hret
      have y0:wr.cell? ⟨w.heap.size+1,0,none⟩=some (.int .i64 0):=hy.cell 0
      have y1:wr.cell? ⟨w.heap.size+1,1,none⟩=some (.int .i64 0):=hy.cell 1
      have y2:wr.cell? ⟨w.heap.size+1,2,none⟩=some (.int .i64 0):=hy.cell 2
      have f0:=hy.free 0
      have f1:=hy.free 1
      have f2:=hy.free 2
      have ly:=hy.lt
      have jy:=ah (((hy.set 0 (.int .i64 0)).set 1 (.int .i64 0)).set 2 (.int .i64 0))
      have iG:=ah hBw
      clear hret hBw hx hy hno hBr
      go_wp2
      refine bodyPost_ret (bK rfl _ _ (w.heap.size+1) 37 _ (.bool false) rfl rfl jy.out Tryz.underlying37 rfl (by kernel_rfl)) rfl ?_
      exact⟨by rw[uJ.out];rfl,((iG.out.setCell (by simp) _).setCell (by simp) _).setCell (by simp) _⟩
 ·have uJ:=ah (pI (.inl (by simpa using hr)))
  rw[show fH D=false by simpa using hr] at HR
  clear h hl hr hT pI hbx hB0 hta htx
  go_enter Tryz.func15,Tryz.ntmps15
  go_wp2_with (first | (refine aC (by rfl) 27 _ rfl w.heap.size rfl _ _ _ _ dJ Tryz.underlying27 rfl (aQ _) ?_) | (go_at_call 39;go_must (refine(HR.out _ hB1).mono ?_;rintro e w2 ⟨rfl,hb2⟩;have hB2:=hB1.trans (hb2.mono hB1.size);have dw:=hby.kept hb2;have y0:w2.cell? ⟨w.heap.size+1,0,none⟩=some (.int .i64 0):=dw.cell 0;have y1:w2.cell? ⟨w.heap.size+1,1,none⟩=some (.int .i64 0):=dw.cell 1;have y2:w2.cell? ⟨w.heap.size+1,2,none⟩=some (.int .i64 0):=dw.cell 2;have f0:=dw.free 0;have f1:=dw.free 1;have f2:=dw.free 2;have ly:=dw.lt;have jy:=ah (((dw.set 0 (.int .i64 0)).set 1 (.int .i64 0)).set 2 (.int .i64 0)))))
  refine bodyPost_ret (bK rfl _ _ (w.heap.size+1) 37 _ (.bool false) rfl rfl jy.out Tryz.underlying37 rfl (by kernel_rfl)) rfl ?_
  exact⟨by rw[uJ.out];rfl,((hB2.setCell (by simp) _).setCell (by simp) _).setCell (by simp) _⟩
end Go.Proofs.YtaoinbjjolikhaaGreatDoor
