/- The texts of E39, in few letters (mini.py). -/
import Derived.Test.YtengfapcaaacaaaGreatDoorF38
set_option linter.unusedVariables false
set_option linter.unusedSimpArgs false
set_option maxRecDepth 20000
set_option maxHeartbeats 3200000
namespace Go.Proofs.YtengfapcaaacaaaGreatDoor
open Go.RowKit
theorem UL(VA VB:aA)(A B:aQ)(s:List UInt8)(hs:s.length≤9223372036854775807)(w:World)(hA:aZ w VA A)(hB:aZ w VB B)(nA:∀ x∈A.names,x.length≤9223372036854775807)(nB:∀ x∈B.names,x.length≤9223372036854775807)(oA:∀ b,VA.of b<256)(oB:∀ b,VB.of b<256) :
  Calls Tryz.prog 15 #[.agg VA.cells,.agg VB.cells,sv s] w (bF w (.tuple #[.bool (both A B&&(jh s&&yF A B s)),.int .i64 (if both A B=true then (if jh s=true then 0 else 1) else 6)])):=by
 have xA:=(Box.new w VA.cells 27).alloc (.cells VB.cells 27)
 have xB:=Box.new' (World.size_alloc w (.cells VA.cells 27)).symm VB.cells 27
 have hb0:=(aj w (.cells VA.cells 27)).alloc (aj w (.cells VA.cells 27)).size (.cells VB.cells 27)
 have kC:=ah (fun(u:World) (hu:Below w.heap.size w u)=>nY VA A u (hA.kept hu) oA nA)
 have kE:=ah (fun(u:World) (hu:Below w.heap.size w u)=>nY VB B u (hB.kept hu) oB nB)
 have mX:=ah (fun(u:World)=>KD s u hs)
 unfold both
 cases rA:dM A with
 | false =>
  rw[rA] at kC
  clear hA hB kE
  go_enter Tryz.func15,Tryz.ntmps15
  go_wp2_with (first | (refine ak (by rfl) 27 _ rfl w.heap.size rfl _ _ _ _ xA Tryz.underlying27 rfl (ay _) ?_))
  refine(kC.out _ hb0).mono ?_
  rintro e w2 ⟨rfl,hb2⟩
  go_wp2
  go_ret2
  exact⟨rfl,hb0.trans (hb2.mono hb0.size)⟩
 | true =>
  rw[rA] at kC
  cases rB:dM B with
  | false =>
   rw[rB] at kE
   clear hA hB
   go_enter Tryz.func15,Tryz.ntmps15
   go_wp2_with (first | (refine ak (by rfl) 27 _ rfl w.heap.size rfl _ _ _ _ xA Tryz.underlying27 rfl (ay _) ?_))
   refine(kC.out _ hb0).mono ?_
   rintro e w2 ⟨rfl,hb2⟩
   have jc:=xB.kept hb2
   have hB2:=hb0.trans (hb2.mono hb0.size)
   go_wp2_with (first | (refine ak (by rfl) 27 _ rfl (w.heap.size+1) rfl _ _ _ _ jc Tryz.underlying27 rfl (ay _) ?_))
   refine(kE.out _ hB2).mono ?_
   rintro e w3 ⟨rfl,hb3⟩
   go_wp2
   go_ret2
   exact⟨rfl,hB2.trans (hb3.mono hB2.size)⟩
  | true =>
   rw[rB] at kE
   cases hn:jh s with
   | false =>
    rw[hn] at mX
    clear hA hB
    go_enter Tryz.func15,Tryz.ntmps15
    go_wp2_with (first | (refine ak (by rfl) 27 _ rfl w.heap.size rfl _ _ _ _ xA Tryz.underlying27 rfl (ay _) ?_))
    refine(kC.out _ hb0).mono ?_
    rintro e w2 ⟨rfl,hb2⟩
    have mQ:=xA.kept hb2
    have jc:=xB.kept hb2
    have hB2:=hb0.trans (hb2.mono hb0.size)
    go_wp2_with (first | (refine ak (by rfl) 27 _ rfl (w.heap.size+1) rfl _ _ _ _ jc Tryz.underlying27 rfl (ay _) ?_))
    refine(kE.out _ hB2).mono ?_
    rintro e w3 ⟨rfl,hb3⟩
    have mV:=mQ.kept hb3
    have lH:=jc.kept hb3
    have hB3:=hB2.trans (hb3.mono hB2.size)
    clear xA xB mQ jc hB2 hb2 hb3
    go_wp2_with fail
    refine(mX.out _).mono ?_
    rintro e w3n ⟨rfl,Em⟩
    have mV:=mV.kept Em
    have lH:=lH.kept Em
    have hB3:=hB3.trans (Em.mono hB3.size)
    clear Em
    go_wp2
    go_ret2
    exact⟨rfl,hB3⟩
   | true =>
    rw[hn] at mX
    have wA:=nN rA
    have wB:=nN rB
    have Io:=ah (fun(u:World) (hu:Below w.heap.size w u)=>IZ VA VB A B u (hA.kept hu) (hB.kept hu) wA wB oA oB)
    have oW:=ah (fun(u:World) (hu:Below w.heap.size w u) (x y:Nat) (h1:x<A.label.length) (h2:y<B.label.length)=>IY VA VB A B u (hA.kept hu) (hB.kept hu) wA wB x y h1 h2)
    have qC:=ah (pJ wA wB).1.ok
    have heq:yF A B s=vN (fun p=>bZ A p.1==s&&bZ B p.2 != s) (fZ A B):=rfl
    have hRl:(fZ A B).length≤4294967296:=Nat.le_trans ((pJ wA wB).1.len (N:=A.label.length*B.label.length) fun m hm hx=>wX m hm hx) (Nat.mul_le_mul wA.le wB.le)
    have h0:0<(fZ A B).length:=by obtain⟨h,_⟩:=BU A B;exact h
    rw[heq]
    generalize fZ A B=R at *
    clear hA hB wA wB nA nB heq rA rB hn
    go_enter Tryz.func15,Tryz.ntmps15
    go_wp2_with (first | (refine ak (by rfl) 27 _ rfl w.heap.size rfl _ _ _ _ xA Tryz.underlying27 rfl (ay _) ?_))
    refine(kC.out _ hb0).mono ?_
    rintro e w2 ⟨rfl,hb2⟩
    have mQ:=xA.kept hb2
    have jc:=xB.kept hb2
    have hB2:=hb0.trans (hb2.mono hb0.size)
    go_wp2_with (first | (refine ak (by rfl) 27 _ rfl (w.heap.size+1) rfl _ _ _ _ jc Tryz.underlying27 rfl (ay _) ?_))
    refine(kE.out _ hB2).mono ?_
    rintro e w3 ⟨rfl,hb3⟩
    have mV:=mQ.kept hb3
    have lH:=jc.kept hb3
    have hB3:=hB2.trans (hb3.mono hB2.size)
    clear xA xB mQ jc hB2 hb2 hb3
    go_wp2_with fail
    refine(mX.out _).mono ?_
    rintro e w3n ⟨rfl,Em⟩
    have mV:=mV.kept Em
    have lH:=lH.kept Em
    have hB3:=hB3.trans (Em.mono hB3.size)
    clear Em
    go_wp2_with (first | (refine ak (by rfl) 27 _ rfl w.heap.size rfl _ _ _ _ mV Tryz.underlying27 rfl (ay _) ?_) | (refine ak (by rfl) 27 _ rfl (w.heap.size+1) rfl _ _ _ _ lH Tryz.underlying27 rfl (ay _) ?_))
    refine(Io.out _ hB3).mono ?_
    rintro e w4 ⟨v1,v2,v3,rfl,hP,hb4⟩
    have hB4:=hB3.trans (hb4.mono hB3.size)
    have tZ:=mV.kept hb4
    have ug:=lH.kept hb4
    obtain⟨g,c,rfl,hc1,hc2,hgl,hgx⟩:=hP.cells h0
    obtain⟨m,hm⟩:∃ m,R.length=m:=⟨_,rfl⟩
    have HM:=ah hm
    rw[hm] at hc1 hRl ⊢
    have LM:=ah hgx;have IE:=ah hgl;have HB4:=ah hB4;have HX:=ah (fun(u:World) (hu:Below w4.heap.size w4 u)=>And.intro (tZ.kept hu) (ug.kept hu))
    clear hm h0 hP hb4 hB4 hB3 mV lH tZ ug hgx hgl
    go_wp2_with fail
    go_loopw [11] (fun v9 wr=>∃ i:Nat,i≤m∧v9=.int .i64 i∧Below w4.heap.size w4 wr∧∀ j (hj:j<R.length),j<i→(bZ A (R[j]).1.1==s&&bZ B (R[j]).1.2 != s)=false) (fun v9 _=>m - (intOf v9).toNat)
    case atStart=>exact⟨0,Nat.zero_le _,rfl,Below.refl _ _,fun j _ h=>absurd h (Nat.not_lt_zero _)⟩
    case round =>
     obtain⟨i,hi,rfl,hB,hall⟩:=hrel
     by_cases hlt:i<m
     ·have UK:i<R.length:=by rw[HM.out];exact hlt
      obtain⟨x,y,hxy,hok⟩:∃ x y,(R[i]).1=(x,y)∧Bo A B (x,y):=⟨_,_,rfl,qC.out _ (List.getElem_mem UK)⟩
      have hBw:Below w.heap.size w wr:=HB4.out.trans (hB.mono HB4.out.size)
      have HN:=ah (fun(v:World) (hv:Below w.heap.size w v)=>oW.out v hv x y hok.1 hok.2)
      have HF:Hid (∀ v,Later wr.drew v→(Box v w.heap.size VA.cells 27∧Box v (w.heap.size+1) VB.cells 27)∧v.cell? ⟨g,i*2,none⟩=some (.int .i64 (x:Nat))∧v.cell? ⟨g,i*2+1,none⟩=some (.int .i64 (y:Nat))∧Below w.heap.size w v∧Below w4.heap.size w4 v):=ah fun v hl=>by
       have hv:=hB.trans ((dl hl).mono hB.size)
       have:=LM.out v (hv.block g IE.out) i UK
       rw[hxy] at this
       exact⟨HX.out v hv,this.1,this.2,HB4.out.trans (hv.mono HB4.out.size),hv⟩
      have nZ:=ah hall
      obtain⟨na,hna⟩:∃ na,bZ A x=na:=⟨_,rfl⟩
      obtain⟨nb,hnb⟩:∃ nb,bZ B y=nb:=⟨_,rfl⟩
      rw[hna,hnb] at HN
      have iT:=ah (And.intro hxy (And.intro hna hnb))
      have i0:(0:Int)≤(i:Int):=by omega
      have i1:(i:Int)<(m:Int):=by omega
      clear hxy hok hB hBw hall hna hnb
      go_wp2_with fail
      refine aO (R:=Later) 12 (by kernel_rfl) ?_
      refine iE (t:=12) (i:=0) rfl (by kernel_rfl) (by kernel_rfl) (by kernel_rfl) (by kernel_rfl) (fun _ _ _ h=>h) (by rfl) (fun w1 hl=>cO 27 _ rfl _ rfl ((HF.out w1 hl).1.1) Tryz.underlying27 rfl (ay VA)) ?_
      simp only[eA,eB,Act.put,eD,eE,eF]
      refine iE (t:=12) (i:=1) rfl (by kernel_rfl) (by kernel_rfl) (by kernel_rfl) (by kernel_rfl) (fun _ _ _ h=>h) (by rfl) (fun w1 hl=>cO 27 _ rfl _ rfl ((HF.out w1 hl).1.2) Tryz.underlying27 rfl (ay VB)) ?_
      simp only[eA,eB,eC,Act.put,eD,eE,eF]
      refine pl [2,3,4,5] ?_
      repeat
       refine dR ?_ rfl (fun w1 hl=>?_) ?_
       rotate_left
       ·obtain⟨_,q1,q2,_⟩:=HF.out w1 hl;have t0:=World.block_lt_of_cell? _ _ q1;go_simp;try with_reducible rfl
       simp only[eA,eB,eC,Act.put,eD,eE,eF]
      refine bV ?_
      refine yg 6 ?_ ?_ ?_ rfl (fun w1=>?_) (fun w1 hl=>?_) ?_
      rotate_left 4
      ·exact HN.out _ (HF.out w1 hl).2.2.2.1
      rotate_left
      ·go_simp
      simp only[eA,eB,eC,Act.put,eD,eE,eF]
      refine pl [7,8,9,10,11] ?_
      repeat
       refine dR ?_ rfl (fun w1 hl=>?_) ?_
       rotate_left
       ·skip;go_simp;try with_reducible rfl
       simp only[eA,eB,eC,Act.put,eD,eE,eF]
      refine bV ?_
      refine aV (by kernel_rfl) (fun w1 hl=>?_) _
      have dw:=(HF.out w1 hl).2.2.2.2
      clear HF hl HN
      have mG:=ah dw
      clear dw
      by_cases he:na=s
      ·have e3:(na==s)=true:=by simp[he]
       by_cases he2:nb=s
       ·have e4:(nb != s)=false:=by simp[he2]
        have e5:(nb==s)=true:=by simp[he2]
        have HE:=ah (And.intro he he2)
        clear he he2
        go_wp2
        go_roundw
        case rel =>
         refine⟨i+1,hlt,by go_num,mG.out,fun j hj hji=>?_⟩
         by_cases hj2:j=i
         ·subst hj2
          rw[iT.out.1,iT.out.2.1,iT.out.2.2,HE.out.2];simp
         ·exact nZ.out j hj (by omega)
        case measure=>simp[intOf];omega
       ·have e4:(nb != s)=true:=by simp[he2]
        have e5:(nb==s)=false:=by simp[he2]
        have HE:=ah (And.intro he he2)
        clear he he2
        go_wp2
        go_ret2
        refine⟨?_,HB4.out.trans (mG.out.mono HB4.out.size)⟩
        rw[Ea UK (by rw[iT.out.1,iT.out.2.1,iT.out.2.2];simpa using HE.out)]
        rfl
      ·have e3:(na==s)=false:=by simp[he]
       have HE:=ah he
       clear he
       go_wp2
       go_roundw
       case rel =>
        refine⟨i+1,hlt,by go_num,mG.out,fun j hj hji=>?_⟩
        by_cases hj2:j=i
        ·subst hj2
         rw[iT.out.1,iT.out.2.1,iT.out.2.2];simp[HE.out]
        ·exact nZ.out j hj (by omega)
       case measure=>simp[intOf];omega
     ·obtain rfl:i=m:=by omega
      have nZ:=ah hall
      have mG:=ah hB
      clear hall hB
      go_wp2
      go_ret2
      refine⟨?_,HB4.out.trans (mG.out.mono HB4.out.size)⟩
      rw[F9 fun j hj=>nZ.out j hj (by rw[←HM.out];exact hj)]
      rfl
end Go.Proofs.YtengfapcaaacaaaGreatDoor
