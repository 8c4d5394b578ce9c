/- The texts of N11, in few letters (mini.py). -/
import Derived.Test.YtengfapcaaacaaaGreatDoorM10
import Derived.Test.YtengfapcaaacaaaGreatDoorM8
import Derived.Deep.DeepCutAuto
set_option linter.unusedVariables false
set_option linter.unusedSimpArgs false
set_option maxHeartbeats 6400000
set_option maxRecDepth 20000
namespace Go.Proofs.YtengfapcaaacaaaGreatDoor
section
open Go.RowKit
def mM(l:List UInt8)(i:Nat):Sum (Nat×Nat) (Nat×Nat) :=
 if l.length≤i+1 then .inl (14,i) else
 if (l.getD (i+1) 0).toNat=110 then .inr (10,i+2) else
 if (l.getD (i+1) 0).toNat=116 then .inr (9,i+2) else
 if (l.getD (i+1) 0).toNat=114 then .inr (13,i+2) else
 if (l.getD (i+1) 0).toNat=120 then
  (if i+4≤l.length then (match hexV (l.getD (i+2) 0).toNat,hexV (l.getD (i+3) 0).toNat with | some x,some y=>.inr (16*x+y,i+4) | _,_=>.inl (14,i)) else .inl (14,i)) else
 if (l.getD (i+1) 0).toNat<33∨126<(l.getD (i+1) 0).toNat∨Dl (l.getD (i+1) 0).toNat=true then .inl (14,i) else .inr ((l.getD (i+1) 0).toNat,i+2)
def FM(b:Nat)(g:Nat×Nat)(n cap fr p:Nat)(l:List UInt8)(w:World)(r:Sum (Nat×Nat) (Nat×Nat))(e:Ending)(w':World):Prop :=
 match r with
 | .inr (c,j)=>c<256∧j≤n∧qF b g n cap fr l w (.int .u8 c) j 0 p e w'
 | .inl (kd,ps)=>∃ c j:Nat,c<256∧j≤n∧qF b g n cap fr l w (.int .u8 c) j kd ps e w'
theorem EM(b:Nat)(g:Nat×Nat)(n cap i fr p:Nat)(l:List UInt8)(w:World)(h:eY w b g n cap i fr 0 p l)(hi:i<n) :
  Calls Tryz.prog 275 #[.pointer (some ⟨b,0,none⟩)] w (FM b g n cap fr p l w (mM l i)):=by
 obtain⟨hlen,hcap,hcap',hcell⟩:=h.sl.cellsA
 have hnb:n≤9223372036854775807:=by omega
 obtain⟨x0,x1,x2,x3,x4⟩:=h.cells
 have f1:=h.box.free 1
 have hw1:IntKind.i64.wrap ((i:Int)+1)=((i+1:Nat):Int):=by rw[IntWalk.i64_in _ (by omega)];omega
 have hR1:=h.set (i+1)
 have tV:Only b w (w.setCell ⟨b,1,none⟩ (.int .i64 ((i+1:Nat):Int))):=Only.set _ _ _
 unfold mM
 rw[←hlen]
 by_cases h0:n≤i+1
 ·rw[if_pos h0]
  have e0:(((n - (i+1):Nat):Int)==0)=true:=by simp;omega
  go_enter Tryz.func275,Tryz.ntmps275
  go_wp2_with (first | (go_at_call 290;go_must (refine(fG _ _ _ _ _ _ _ _ _ _ hR1 (by omega)).mono ?_;rintro e w3 ⟨rfl,hB3⟩;have gy:=hR1.kept hB3;have hO3:=tV.trans (Only.below hB3 (Nat.le_of_lt hR1.box.lt)))) | (go_at_call 291;go_must (refine(iD _ _ _ _ _ _ _ _ _ 14 i _ gy).mono ?_;rintro e w4 ⟨rfl,pG,hO4⟩)))
  go_ret
  exact⟨0,i+1,by omega,by omega,rfl,pG,hO3.trans hO4⟩
 ·rw[if_neg h0]
  have e0:(((n - (i+1):Nat):Int)==0)=false:=by simp;omega
  have hk:i+1<l.length:=by omega
  have hgd:l.getD (i+1) 0=l[i+1]:=by simp[List.getD_eq_getElem?_getD,hk]
  rw[hgd]
  have hc0:=fun(v:World) (hr:eY v b g n cap (i+1) fr 0 p l)=>by have:=hr.sl.cellsA.2.2.2 (i+1) hk v (Below.refl _ _);(try dsimp only at this);exact this
  generalize l[i+1]=c at *
  have hc256:=c.toNat_lt
  have HC:=ah hc0
  have hw2:IntKind.i64.wrap (((i:Int)+1)+1)=((i+2:Nat):Int):=by rw[IntWalk.i64_in _ (by omega)];omega
  have hin:(i:Int)+1<(n:Int):=by omega
  have hin0:(0:Int)≤(i:Int)+1:=by omega
  have hS:∀ (w3:World),eY w3 b g n cap (i+1) fr 0 p l→Only b w w3→Hid (∀ v,Later w3.drew v→eY v b g n cap (i+1) fr 0 p l∧Only b w v):=fun w3 gy hO3=>ah fun v hl=>⟨(gy.kept (Below.refl _ _).drew).kept hl,hO3.trans (Only.below ((Below.refl w3.heap.size w3).drew.trans (Below.mono hl (Nat.le_refl _))) (Nat.le_of_lt gy.box.lt))⟩
  have HS:=ah hS
  clear hc0 hgd hS hcell
  by_cases k1:c.toNat=110
  ·rw[if_pos k1]
   have e1:((c.toNat:Int)==110)=true:=by simp;omega
   have e1':(c.toNat==110)=true:=by simp;omega
   clear hk h0 hcap hlen
   go_enter Tryz.func275,Tryz.ntmps275
   go_wp2_with (go_at_call 290;go_must (refine(fG _ _ _ _ _ _ _ _ _ _ hR1 (by omega)).mono ?_;rintro e w3 ⟨rfl,hB3⟩;have gy:=hR1.kept hB3;have hO3:=tV.trans (Only.below hB3 (Nat.le_of_lt hR1.box.lt))))
   have HF:=HS.out w3 gy hO3
   refine aA (R:=Later) 13 (by kernel_rfl) ?_
   refine pl [0,1,2,3,4,5,6,7,8,9,10,11,12] ?_
   repeat
    refine dI ?_ rfl (fun w1 hl=>?_) ?_
    rotate_left
    ·obtain⟨x0,x1,x2,x3,x4⟩:=(HF.out w1 hl).1.cells;have c0:=HC.out w1 (HF.out w1 hl).1;go_simp;try with_reducible rfl
    simp only[eA,eB,eC,Act.put,eD,eE,eF]
   refine bU ?_
   refine aH (by kernel_rfl) (fun w1 hl=>?_) _
   obtain⟨gI,jO⟩:=HF.out w1 hl
   obtain⟨x0,x1,x2,x3,x4⟩:=gI.cells
   have f1:=gI.box.free 1
   have kG:=gI.set (i+2)
   have lI:Only b w (w1.setCell ⟨b,1,none⟩ (.int .i64 ((i+2:Nat):Int))):=jO.trans (Only.set _ _ _)
   clear hl HF
   go_wp2
   go_ret
   exact⟨by omega,by omega,rfl,kG,lI⟩
  ·rw[if_neg k1]
   have e1:((c.toNat:Int)==110)=false:=by simp;omega
   have e1':(c.toNat==110)=false:=by simp;omega
   by_cases k2:c.toNat=116
   ·rw[if_pos k2]
    have e2:((c.toNat:Int)==116)=true:=by simp;omega
    have e2':(c.toNat==116)=true:=by simp;omega
    clear hk h0 hcap hlen
    go_enter Tryz.func275,Tryz.ntmps275
    go_wp2_with (go_at_call 290;go_must (refine(fG _ _ _ _ _ _ _ _ _ _ hR1 (by omega)).mono ?_;rintro e w3 ⟨rfl,hB3⟩;have gy:=hR1.kept hB3;have hO3:=tV.trans (Only.below hB3 (Nat.le_of_lt hR1.box.lt))))
    have HF:=HS.out w3 gy hO3
    refine aA (R:=Later) 13 (by kernel_rfl) ?_
    refine pl [0,1,2,3,4,5,6,7,8,9,10,11,12] ?_
    repeat
     refine dI ?_ rfl (fun w1 hl=>?_) ?_
     rotate_left
     ·obtain⟨x0,x1,x2,x3,x4⟩:=(HF.out w1 hl).1.cells;have c0:=HC.out w1 (HF.out w1 hl).1;go_simp;try with_reducible rfl
     simp only[eA,eB,eC,Act.put,eD,eE,eF]
    refine bU ?_
    refine aH (by kernel_rfl) (fun w1 hl=>?_) _
    obtain⟨gI,jO⟩:=HF.out w1 hl
    obtain⟨x0,x1,x2,x3,x4⟩:=gI.cells
    have f1:=gI.box.free 1
    have kG:=gI.set (i+2)
    have lI:Only b w (w1.setCell ⟨b,1,none⟩ (.int .i64 ((i+2:Nat):Int))):=jO.trans (Only.set _ _ _)
    clear hl HF
    go_wp2
    go_ret
    exact⟨by omega,by omega,rfl,kG,lI⟩
   ·rw[if_neg k2]
    have e2:((c.toNat:Int)==116)=false:=by simp;omega
    have e2':(c.toNat==116)=false:=by simp;omega
    by_cases k3:c.toNat=114
    ·rw[if_pos k3]
     have e3:((c.toNat:Int)==114)=true:=by simp;omega
     have e3':(c.toNat==114)=true:=by simp;omega
     clear hk h0 hcap hlen
     go_enter Tryz.func275,Tryz.ntmps275
     go_wp2_with (go_at_call 290;go_must (refine(fG _ _ _ _ _ _ _ _ _ _ hR1 (by omega)).mono ?_;rintro e w3 ⟨rfl,hB3⟩;have gy:=hR1.kept hB3;have hO3:=tV.trans (Only.below hB3 (Nat.le_of_lt hR1.box.lt))))
     have HF:=HS.out w3 gy hO3
     refine aA (R:=Later) 13 (by kernel_rfl) ?_
     refine pl [0,1,2,3,4,5,6,7,8,9,10,11,12] ?_
     repeat
      refine dI ?_ rfl (fun w1 hl=>?_) ?_
      rotate_left
      ·obtain⟨x0,x1,x2,x3,x4⟩:=(HF.out w1 hl).1.cells;have c0:=HC.out w1 (HF.out w1 hl).1;go_simp;try with_reducible rfl
      simp only[eA,eB,eC,Act.put,eD,eE,eF]
     refine bU ?_
     refine aH (by kernel_rfl) (fun w1 hl=>?_) _
     obtain⟨gI,jO⟩:=HF.out w1 hl
     obtain⟨x0,x1,x2,x3,x4⟩:=gI.cells
     have f1:=gI.box.free 1
     have kG:=gI.set (i+2)
     have lI:Only b w (w1.setCell ⟨b,1,none⟩ (.int .i64 ((i+2:Nat):Int))):=jO.trans (Only.set _ _ _)
     clear hl HF
     go_wp2
     go_ret
     exact⟨by omega,by omega,rfl,kG,lI⟩
    ·rw[if_neg k3]
     have e3:((c.toNat:Int)==114)=false:=by simp;omega
     have e3':(c.toNat==114)=false:=by simp;omega
     by_cases k4:c.toNat=120
     ·rw[if_pos k4]
      have e4:((c.toNat:Int)==120)=true:=by simp;omega
      have e4':(c.toNat==120)=true:=by simp;omega
      by_cases k8:i+4≤n
      ·rw[if_pos k8]
       have e8:decide (2≤((n - (i+2):Nat):Int))=true:=by simp;omega
       have hk2:i+2<l.length:=by omega
       have hk3:i+3<l.length:=by omega
       have hg2:l.getD (i+2) 0=l[i+2]:=by simp[List.getD_eq_getElem?_getD,hk2]
       have hg3:l.getD (i+3) 0=l[i+3]:=by simp[List.getD_eq_getElem?_getD,hk3]
       rw[hg2,hg3]
       have hc2:=fun(v:World) (hr:eY v b g n cap (i+2) fr 0 p l)=>by have:=hr.sl.cellsA.2.2.2 (i+2) hk2 v (Below.refl _ _);(try dsimp only at this);exact this
       have hc3:=fun(v:World) (hr:eY v b g n cap (i+2) fr 0 p l)=>by have:=hr.sl.cellsA.2.2.2 (i+3) hk3 v (Below.refl _ _);(try dsimp only at this);exact this
       have hv2:=fun w=>IE l[i+2].toNat w l[i+2].toNat_lt
       have hv3:=fun w=>IE l[i+3].toNat w l[i+3].toNat_lt
       have ho2:=VA l[i+2].toNat
       have ho3:=VA l[i+3].toNat
       generalize l[i+2]=c2 at *
       generalize l[i+3]=c3 at *
       generalize Js c2.toNat=u2 at *
       generalize Js c3.toNat=u3 at *
       generalize hexV c2.toNat=v2 at *
       generalize hexV c3.toNat=v3 at *
       have HC2:=ah hc2
       have HC3:=ah hc3
       have HV2:=ah hv2
       have HV3:=ah hv3
       have hin2:(i:Int)+2<(n:Int):=by omega
       have Ro:(i:Int)+2+1<(n:Int):=by omega
       have apM:(i:Int)+3<(n:Int):=by omega
       have acw:(0:Int)≤(i:Int)+2:=by omega
       have acy:(0:Int)≤(i:Int)+3:=by omega
       have hw3:IntKind.i64.wrap (((i:Int)+2)+1)=(i:Int)+3:=by rw[IntWalk.i64_in _ (by omega)];omega
       have hw4:IntKind.i64.wrap (((i:Int)+2)+2)=((i+4:Nat):Int):=by rw[IntWalk.i64_in _ (by omega)];omega
       have hal:Dl 120=true:=by decide
       have ht2:((i:Int)+2).toNat=i+2:=by omega
       have ht3:((i:Int)+3).toNat=i+3:=by omega
       have hj4:i+4≤n:=k8
       clear hk h0 hcap hlen k8 hg2 hg3 hc2 hc3 hv2 hv3 hk2 hk3
       go_enter Tryz.func275,Tryz.ntmps275
       go_wp2_with (go_at_call 290;go_must (refine(fG _ _ _ _ _ _ _ _ _ _ hR1 (by omega)).mono ?_;rintro e w3 ⟨rfl,hB3⟩;have gy:=hR1.kept hB3;have hO3:=tV.trans (Only.below hB3 (Nat.le_of_lt hR1.box.lt))))
       have HF:=HS.out w3 gy hO3
       refine aA (R:=Later) 13 (by kernel_rfl) ?_
       refine pl [0,1,2,3,4,5,6,7,8,9,10,11,12] ?_
       repeat
        refine dI ?_ rfl (fun w1 hl=>?_) ?_
        rotate_left
        ·obtain⟨x0,x1,x2,x3,x4⟩:=(HF.out w1 hl).1.cells;have c0:=HC.out w1 (HF.out w1 hl).1;go_simp;try with_reducible rfl
        simp only[eA,eB,eC,Act.put,eD,eE,eF]
       refine bU ?_
       refine aH (by kernel_rfl) (fun w1 hl=>?_) _
       obtain⟨gI,jO⟩:=HF.out w1 hl
       obtain⟨x0,x1,x2,x3,x4⟩:=gI.cells
       have f1:=gI.box.free 1
       have kG:=gI.set (i+2)
       have lI:Only b w (w1.setCell ⟨b,1,none⟩ (.int .i64 ((i+2:Nat):Int))):=jO.trans (Only.set _ _ _)
       clear hl HF
       go_wp2_with (go_at_call 290;go_must (refine(fG _ _ _ _ _ _ _ _ _ _ kG (by omega)).mono ?_;rintro e w7 ⟨rfl,lU⟩;have tX:=kG.kept lU;have sQ:=lI.trans (Only.below lU (Nat.le_of_lt kG.box.lt))))
       have VD:Hid (∀ v,Later w7.drew v→eY v b g n cap (i+2) fr 0 p l∧Only b w v):=ah fun v hl=>⟨(tX.kept (Below.refl _ _).drew).kept hl,sQ.trans (Only.below ((Below.refl w7.heap.size w7).drew.trans (Below.mono hl (Nat.le_refl _))) (Nat.le_of_lt tX.box.lt))⟩
       refine aA (R:=Later) 29 (by kernel_rfl) ?_
       refine pl [0,1,2,3,4,5,6,7,8,9,10,11,13,14,15,16,17,18,19,20,21,22,23,24,25] ?_
       repeat
        refine dI ?_ rfl (fun w1 hl=>?_) ?_
        rotate_left
        ·obtain⟨x0,x1,x2,x3,x4⟩:=(VD.out w1 hl).1.cells;have c0:=HC2.out w1 (VD.out w1 hl).1;have c1:=HC3.out w1 (VD.out w1 hl).1;go_simp;try with_reducible rfl
        simp only[eA,eB,eC,Act.put,eD,eE,eF]
       refine bU ?_
       refine EI 12 ?_ ?_ ?_ rfl (fun w1=>?_) (fun w1 hl=>?_) ?_
       rotate_left 4
       ·exact HV2.out w1
       rotate_left
       ·go_simp
       simp only[eA,eB,eC,Act.put,eD,eE,eF]
       refine EI 26 ?_ ?_ ?_ rfl (fun w1=>?_) (fun w1 hl=>?_) ?_
       rotate_left 4
       ·exact HV3.out w1
       rotate_left
       ·go_simp
       simp only[eA,eB,eC,Act.put,eD,eE,eF]
       refine pl [27,28] ?_
       repeat
        refine dI ?_ rfl (fun w1 hl=>?_) ?_
        rotate_left
        ·obtain⟨x0,x1,x2,x3,x4⟩:=(VD.out w1 hl).1.cells;go_simp;try with_reducible rfl
        simp only[eA,eB,eC,Act.put,eD,eE,eF]
       refine bU ?_
       refine aH (by kernel_rfl) (fun w1 hl=>?_) _
       obtain⟨wL,Aa⟩:=VD.out w1 hl
       obtain⟨x0,x1,x2,x3,x4⟩:=wL.cells
       have f1:=wL.box.free 1
       have yZ:=wL.set (i+4)
       have zf:Only b w (w1.setCell ⟨b,1,none⟩ (.int .i64 ((i+4:Nat):Int))):=Aa.trans (Only.set _ _ _)
       clear hl VD
       rcases ho2 with⟨rfl,rfl⟩ | ⟨y2,rfl,rfl,hy2⟩
       ·go_wp2_with (first | (go_at_call 293;go_must (refine(oz 120 _ (by decide)).mono ?_;rintro e wa ⟨rfl,hBa⟩;have hRa:=yZ.kept hBa;have hOa:=zf.trans (Only.below hBa (Nat.le_of_lt yZ.box.lt)))) | (go_at_call 291;go_must (refine(iD _ _ _ _ _ _ _ _ _ 14 i _ hRa).mono ?_;rintro e wb ⟨rfl,hRb,hOb⟩)))
        go_ret
        exact⟨120,i+4,by omega,by omega,rfl,hRb,hOa.trans hOb⟩
       ·rcases ho3 with⟨rfl,rfl⟩ | ⟨y3,rfl,rfl,hy3⟩
        ·go_wp2_with (first | (go_at_call 293;go_must (refine(oz 120 _ (by decide)).mono ?_;rintro e wa ⟨rfl,hBa⟩;have hRa:=yZ.kept hBa;have hOa:=zf.trans (Only.below hBa (Nat.le_of_lt yZ.box.lt)))) | (go_at_call 291;go_must (refine(iD _ _ _ _ _ _ _ _ _ 14 i _ hRa).mono ?_;rintro e wb ⟨rfl,hRb,hOb⟩)))
         go_ret
         exact⟨120,i+4,by omega,by omega,rfl,hRb,hOa.trans hOb⟩
        ·have hm1:IntKind.i64.wrap (16*(y2:Int))=16*(y2:Int):=IntWalk.i64_in _ (by omega)
         have hm2:IntKind.i64.wrap (16*(y2:Int)+(y3:Int))=((16*y2+y3:Nat):Int):=by rw[IntWalk.i64_in _ (by omega)];omega
         have wO:IntKind.u8.wrap ((16*y2+y3:Nat):Int)=((16*y2+y3:Nat):Int):=by rw[IntKind.wrap_u8'];omega
         have hm4:IntKind.u8.wrap (16*(y2:Int)+(y3:Int))=((16*y2+y3:Nat):Int):=by rw[IntKind.wrap_u8'];omega
         go_wp2
         go_ret
         exact⟨by omega,by omega,rfl,yZ,zf⟩
      ·rw[if_neg k8]
       have e8:decide (2≤((n - (i+2):Nat):Int))=false:=by simp;omega
       have e8':decide (2≤n - (i+2))=false:=by simp;omega
       have hal:Dl 120=true:=by decide
       clear hk h0 hcap hlen k8
       go_enter Tryz.func275,Tryz.ntmps275
       go_wp2_with (go_at_call 290;go_must (refine(fG _ _ _ _ _ _ _ _ _ _ hR1 (by omega)).mono ?_;rintro e w3 ⟨rfl,hB3⟩;have gy:=hR1.kept hB3;have hO3:=tV.trans (Only.below hB3 (Nat.le_of_lt hR1.box.lt))))
       have HF:=HS.out w3 gy hO3
       refine aA (R:=Later) 13 (by kernel_rfl) ?_
       refine pl [0,1,2,3,4,5,6,7,8,9,10,11,12] ?_
       repeat
        refine dI ?_ rfl (fun w1 hl=>?_) ?_
        rotate_left
        ·obtain⟨x0,x1,x2,x3,x4⟩:=(HF.out w1 hl).1.cells;have c0:=HC.out w1 (HF.out w1 hl).1;go_simp;try with_reducible rfl
        simp only[eA,eB,eC,Act.put,eD,eE,eF]
       refine bU ?_
       refine aH (by kernel_rfl) (fun w1 hl=>?_) _
       obtain⟨gI,jO⟩:=HF.out w1 hl
       obtain⟨x0,x1,x2,x3,x4⟩:=gI.cells
       have f1:=gI.box.free 1
       have kG:=gI.set (i+2)
       have lI:Only b w (w1.setCell ⟨b,1,none⟩ (.int .i64 ((i+2:Nat):Int))):=jO.trans (Only.set _ _ _)
       clear hl HF
       go_wp2_with (first | (go_at_call 290;go_must (refine(fG _ _ _ _ _ _ _ _ _ _ kG (by omega)).mono ?_;rintro e w7 ⟨rfl,lU⟩;have tX:=kG.kept lU;have sQ:=lI.trans (Only.below lU (Nat.le_of_lt kG.box.lt)))) | (go_at_call 293;go_must (refine(oz 120 _ (by decide)).mono ?_;rintro e w8 ⟨rfl,mW⟩;have wL:=tX.kept mW;have Aa:=sQ.trans (Only.below mW (Nat.le_of_lt tX.box.lt)))) | (go_at_call 291;go_must (refine(iD _ _ _ _ _ _ _ _ _ 14 i _ wL).mono ?_;rintro e w9 ⟨rfl,yZ,zf⟩)))
       go_ret
       exact⟨120,i+2,by omega,by omega,rfl,yZ,Aa.trans zf⟩
     ·rw[if_neg k4]
      have e4:((c.toNat:Int)==120)=false:=by simp;omega
      have e4':(c.toNat==120)=false:=by simp;omega
      by_cases k5:c.toNat<33
      ·rw[if_pos (Or.inl k5)]
       have e5:decide ((c.toNat:Int)<33)=true:=by simp;omega
       clear hk h0 hcap hlen
       go_enter Tryz.func275,Tryz.ntmps275
       go_wp2_with (go_at_call 290;go_must (refine(fG _ _ _ _ _ _ _ _ _ _ hR1 (by omega)).mono ?_;rintro e w3 ⟨rfl,hB3⟩;have gy:=hR1.kept hB3;have hO3:=tV.trans (Only.below hB3 (Nat.le_of_lt hR1.box.lt))))
       have HF:=HS.out w3 gy hO3
       refine aA (R:=Later) 13 (by kernel_rfl) ?_
       refine pl [0,1,2,3,4,5,6,7,8,9,10,11,12] ?_
       repeat
        refine dI ?_ rfl (fun w1 hl=>?_) ?_
        rotate_left
        ·obtain⟨x0,x1,x2,x3,x4⟩:=(HF.out w1 hl).1.cells;have c0:=HC.out w1 (HF.out w1 hl).1;go_simp;try with_reducible rfl
        simp only[eA,eB,eC,Act.put,eD,eE,eF]
       refine bU ?_
       refine aH (by kernel_rfl) (fun w1 hl=>?_) _
       obtain⟨gI,jO⟩:=HF.out w1 hl
       obtain⟨x0,x1,x2,x3,x4⟩:=gI.cells
       have f1:=gI.box.free 1
       have kG:=gI.set (i+2)
       have lI:Only b w (w1.setCell ⟨b,1,none⟩ (.int .i64 ((i+2:Nat):Int))):=jO.trans (Only.set _ _ _)
       clear hl HF
       have tX:=kG
       have sQ:=lI
       go_wp2_with (first | (go_at_call 293;go_must (refine(oz _ _ hc256).mono ?_;rintro e w8 ⟨rfl,mW⟩;have wL:=tX.kept mW;have Aa:=sQ.trans (Only.below mW (Nat.le_of_lt tX.box.lt)))) | (go_at_call 291;go_must (refine(iD _ _ _ _ _ _ _ _ _ 14 i _ tX).mono ?_;rintro e w9 ⟨rfl,yZ,zf⟩)))
       go_ret
       exact⟨c.toNat,i+2,by omega,by omega,rfl,yZ,sQ.trans zf⟩
      ·have e5:decide ((c.toNat:Int)<33)=false:=by simp;omega
       by_cases k6:126<c.toNat
       ·rw[if_pos (Or.inr (Or.inl k6))]
        have e6:decide (126<(c.toNat:Int))=true:=by simp;omega
        clear hk h0 hcap hlen
        go_enter Tryz.func275,Tryz.ntmps275
        go_wp2_with (go_at_call 290;go_must (refine(fG _ _ _ _ _ _ _ _ _ _ hR1 (by omega)).mono ?_;rintro e w3 ⟨rfl,hB3⟩;have gy:=hR1.kept hB3;have hO3:=tV.trans (Only.below hB3 (Nat.le_of_lt hR1.box.lt))))
        have HF:=HS.out w3 gy hO3
        refine aA (R:=Later) 13 (by kernel_rfl) ?_
        refine pl [0,1,2,3,4,5,6,7,8,9,10,11,12] ?_
        repeat
         refine dI ?_ rfl (fun w1 hl=>?_) ?_
         rotate_left
         ·obtain⟨x0,x1,x2,x3,x4⟩:=(HF.out w1 hl).1.cells;have c0:=HC.out w1 (HF.out w1 hl).1;go_simp;try with_reducible rfl
         simp only[eA,eB,eC,Act.put,eD,eE,eF]
        refine bU ?_
        refine aH (by kernel_rfl) (fun w1 hl=>?_) _
        obtain⟨gI,jO⟩:=HF.out w1 hl
        obtain⟨x0,x1,x2,x3,x4⟩:=gI.cells
        have f1:=gI.box.free 1
        have kG:=gI.set (i+2)
        have lI:Only b w (w1.setCell ⟨b,1,none⟩ (.int .i64 ((i+2:Nat):Int))):=jO.trans (Only.set _ _ _)
        clear hl HF
        have tX:=kG
        have sQ:=lI
        go_wp2_with (first | (go_at_call 293;go_must (refine(oz _ _ hc256).mono ?_;rintro e w8 ⟨rfl,mW⟩;have wL:=tX.kept mW;have Aa:=sQ.trans (Only.below mW (Nat.le_of_lt tX.box.lt)))) | (go_at_call 291;go_must (refine(iD _ _ _ _ _ _ _ _ _ 14 i _ tX).mono ?_;rintro e w9 ⟨rfl,yZ,zf⟩)))
        go_ret
        exact⟨c.toNat,i+2,by omega,by omega,rfl,yZ,sQ.trans zf⟩
       ·have e6:decide (126<(c.toNat:Int))=false:=by simp;omega
        have hlt:=fun w=>oz c.toNat w hc256
        cases k7:Dl c.toNat with
        | true =>
         rw[if_pos (Or.inr (Or.inr rfl))]
         rw[k7] at hlt
         have OA:=ah hlt
         clear hlt
         clear hk h0 hcap hlen
         go_enter Tryz.func275,Tryz.ntmps275
         go_wp2_with (go_at_call 290;go_must (refine(fG _ _ _ _ _ _ _ _ _ _ hR1 (by omega)).mono ?_;rintro e w3 ⟨rfl,hB3⟩;have gy:=hR1.kept hB3;have hO3:=tV.trans (Only.below hB3 (Nat.le_of_lt hR1.box.lt))))
         have HF:=HS.out w3 gy hO3
         refine aA (R:=Later) 13 (by kernel_rfl) ?_
         refine pl [0,1,2,3,4,5,6,7,8,9,10,11,12] ?_
         repeat
          refine dI ?_ rfl (fun w1 hl=>?_) ?_
          rotate_left
          ·obtain⟨x0,x1,x2,x3,x4⟩:=(HF.out w1 hl).1.cells;have c0:=HC.out w1 (HF.out w1 hl).1;go_simp;try with_reducible rfl
          simp only[eA,eB,eC,Act.put,eD,eE,eF]
         refine bU ?_
         refine aH (by kernel_rfl) (fun w1 hl=>?_) _
         obtain⟨gI,jO⟩:=HF.out w1 hl
         obtain⟨x0,x1,x2,x3,x4⟩:=gI.cells
         have f1:=gI.box.free 1
         have kG:=gI.set (i+2)
         have lI:Only b w (w1.setCell ⟨b,1,none⟩ (.int .i64 ((i+2:Nat):Int))):=jO.trans (Only.set _ _ _)
         clear hl HF
         have tX:=kG
         have sQ:=lI
         go_wp2_with (first | (go_at_call 293;go_must (refine(OA.out _).mono ?_;rintro e w8 ⟨rfl,mW⟩;have wL:=tX.kept mW;have Aa:=sQ.trans (Only.below mW (Nat.le_of_lt tX.box.lt)))) | (go_at_call 291;go_must (refine(iD _ _ _ _ _ _ _ _ _ 14 i _ wL).mono ?_;rintro e w9 ⟨rfl,yZ,zf⟩)))
         go_ret
         exact⟨c.toNat,i+2,by omega,by omega,rfl,yZ,Aa.trans zf⟩
        | false =>
         rw[if_neg (by rintro(q | q | q) <;> first | omega | cases q)]
         rw[k7] at hlt
         have OA:=ah hlt
         clear hlt
         clear hk h0 hcap hlen
         go_enter Tryz.func275,Tryz.ntmps275
         go_wp2_with (go_at_call 290;go_must (refine(fG _ _ _ _ _ _ _ _ _ _ hR1 (by omega)).mono ?_;rintro e w3 ⟨rfl,hB3⟩;have gy:=hR1.kept hB3;have hO3:=tV.trans (Only.below hB3 (Nat.le_of_lt hR1.box.lt))))
         have HF:=HS.out w3 gy hO3
         refine aA (R:=Later) 13 (by kernel_rfl) ?_
         refine pl [0,1,2,3,4,5,6,7,8,9,10,11,12] ?_
         repeat
          refine dI ?_ rfl (fun w1 hl=>?_) ?_
          rotate_left
          ·obtain⟨x0,x1,x2,x3,x4⟩:=(HF.out w1 hl).1.cells;have c0:=HC.out w1 (HF.out w1 hl).1;go_simp;try with_reducible rfl
          simp only[eA,eB,eC,Act.put,eD,eE,eF]
         refine bU ?_
         refine aH (by kernel_rfl) (fun w1 hl=>?_) _
         obtain⟨gI,jO⟩:=HF.out w1 hl
         obtain⟨x0,x1,x2,x3,x4⟩:=gI.cells
         have f1:=gI.box.free 1
         have kG:=gI.set (i+2)
         have lI:Only b w (w1.setCell ⟨b,1,none⟩ (.int .i64 ((i+2:Nat):Int))):=jO.trans (Only.set _ _ _)
         clear hl HF
         have tX:=kG
         have sQ:=lI
         go_wp2_with (first | (go_at_call 293;go_must (refine(OA.out _).mono ?_;rintro e w8 ⟨rfl,mW⟩;have wL:=tX.kept mW;have Aa:=sQ.trans (Only.below mW (Nat.le_of_lt tX.box.lt)))) | (go_at_call 291;go_must (refine(iD _ _ _ _ _ _ _ _ _ 14 i _ wL).mono ?_;rintro e w9 ⟨rfl,yZ,zf⟩)))
         go_ret
         exact⟨by omega,by omega,rfl,wL,Aa⟩
end
section
open Go.RowKit
def oD(lo hi:Int)(n:Nat):Nat:=if n=0 then 0 else if hi<0 then addN (addN (mulN lo.toNat n) n) 1 else if lo<hi then addN (addN (mulN lo.toNat n) (mulN (hi - lo).toNat n)) 1 else mulN lo.toNat n
theorem Zr(k:Int)(s:au)(a:Option Addr)(len cap:Nat)(lo hi:Int)(n:Nat)(w:World)(h1:0≤lo∧lo≤1000)(h2:-1≤hi∧hi≤1000)(hn:n≤aF) :
  Calls Tryz.prog 192 #[.agg (aC k s a len cap lo hi).toArray,.int .i64 n] w (aY w (.int .i64 (oD lo hi n:Nat))):=by
 obtain⟨l,rfl⟩:∃ l:Nat,lo=(l:Int):=⟨lo.toNat,by omega⟩
 have hB0:=aj w (.cells (aC k s a len cap l hi).toArray 115)
 have hx0:=Box.new w (aC k s a len cap l hi).toArray 115
 have htop:(1:Nat)≤aF:=by unfold aF;omega
 by_cases hn0:n=0
 ·have e:oD l hi n=0:=by unfold oD;rw[if_pos hn0]
  rw[e]
  have e1:((n:Int)==0)=true:=by rw[hn0];rfl
  clear hx0 hn0 e
  go_enter Tryz.func192,Tryz.ntmps192
  go_wp2
  go_ret
  exact⟨rfl,hB0⟩
 have e1:((n:Int)==0)=false:=by rw[beq_eq_false_iff_ne];omega
 have hmx:max (l:Int) 0=(l:Int):=by omega
 have hl0:(0:Int)≤(l:Int):=by omega
 have hm1:=VB (w.alloc (.cells (aC k s a len cap l hi).toArray 115)).heap.size 0 2 2 [l,n] ((w.alloc (.cells (aC k s a len cap l hi).toArray 115)).alloc (.cells #[.int .i64 (l:Nat),.int .i64 (n:Nat)] 3)) (pW _ [l,n] (by simp)) (by intro y hy;simp at hy;unfold aF at hn;rcases hy with rfl | rfl <;> omega) (by simp)
 rw[World.size_alloc] at hm1
 have acz:mulN l n≤aF:=Dp
 rw[mul_two] at hm1
 obtain⟨p,hp⟩:∃ p,mulN l n=p:=⟨_,rfl⟩
 rw[hp] at hm1 acz
 have Dq:=ah hm1
 by_cases h3:hi<0
 ·have e:oD l hi n=addN (addN p n) 1:=by unfold oD;rw[if_neg hn0,if_pos h3,Int.toNat_natCast,hp]
  have ha:=fun u=>xA u.heap.size 0 3 3 [p,n,1] (u.alloc (.cells #[.int .i64 (p:Nat),.int .i64 (n:Nat),.int .i64 1] 3)) (pW u [p,n,1] (by simp)) (by intro y hy;simp at hy;rcases hy with rfl | rfl | rfl <;> assumption)
  rw[KN acz,←e] at ha
  have HA:=ah ha
  unfold aF at Dq HA
  clear ha hm1 e hp hn0
  generalize oD l hi n=ans at *
  go_enter Tryz.func192,Tryz.ntmps192
  go_wp2_with (first | (go_at_call 236;go_must (refine Dq.out.mono ?_;rintro e w2 ⟨rfl,hb2⟩;have hx2:=(hx0.alloc (.cells #[.int .i64 (l:Nat),.int .i64 (n:Nat)] 3)).kept hb2;have z6:w2.cell? ⟨w.heap.size,6,none⟩=some (.int .i64 l):=hx2.cell 6;have z7:w2.cell? ⟨w.heap.size,7,none⟩=some (.int .i64 hi):=hx2.cell 7;have hsz:=hx2.lt)) | (go_at_call 141;go_must (refine(HA.out _).mono ?_;rintro e w4 ⟨rfl,hb4⟩)))
  go_ret
  have hB1:=hB0.trans ((aj _ (.cells #[.int .i64 (l:Nat),.int .i64 (n:Nat)] 3)).mono hB0.size)
  have hB2:=hB1.trans (hb2.mono hB1.size)
  have hB3:=hB2.trans ((aj w2 (.cells #[.int .i64 (p:Nat),.int .i64 (n:Nat),.int .i64 1] 3)).mono hB2.size)
  exact⟨rfl,hB3.trans (hb4.mono hB3.size)⟩
 by_cases h4:(l:Int)<hi
 ·obtain⟨d,hd⟩:∃ d:Nat,hi=(l:Int)+(d:Int):=⟨(hi - l).toNat,by omega⟩
  have hdt:(hi - (l:Int)).toNat=d:=by omega
  have hm2:=fun u=>VB u.heap.size 0 2 2 [d,n] (u.alloc (.cells #[.int .i64 (d:Nat),.int .i64 (n:Nat)] 3)) (pW u [d,n] (by simp)) (by intro y hy;simp at hy;unfold aF at hn;rcases hy with rfl | rfl <;> omega) (by simp)
  have alK:mulN d n≤aF:=Dp
  rw[mul_two] at hm2
  obtain⟨q,hq⟩:∃ q,mulN d n=q:=⟨_,rfl⟩
  rw[hq] at hm2 alK
  have e:oD l hi n=addN (addN p q) 1:=by unfold oD;rw[if_neg hn0,if_neg h3,if_pos h4,hdt,Int.toNat_natCast,hp,hq]
  have ha:=fun u=>xA u.heap.size 0 3 3 [p,q,1] (u.alloc (.cells #[.int .i64 (p:Nat),.int .i64 (q:Nat),.int .i64 1] 3)) (pW u [p,q,1] (by simp)) (by intro y hy;simp at hy;rcases hy with rfl | rfl | rfl <;> assumption)
  rw[KN acz,←e] at ha
  have hsub:hi - (l:Int)=(d:Int):=by omega
  have HA:=ah ha
  have Zt:=ah hm2
  unfold aF at Dq HA Zt
  clear ha hm1 hm2 e hp hq hn0 hd hdt
  generalize oD l hi n=ans at *
  go_enter Tryz.func192,Tryz.ntmps192
  go_wp2_with fail
  refine Dq.out.mono ?_
  rintro e w2 ⟨rfl,hb2⟩
  have hx2:=(hx0.alloc (.cells #[.int .i64 (l:Nat),.int .i64 (n:Nat)] 3)).kept hb2
  have z6:w2.cell? ⟨w.heap.size,6,none⟩=some (.int .i64 l):=hx2.cell 6
  have z7:w2.cell? ⟨w.heap.size,7,none⟩=some (.int .i64 hi):=hx2.cell 7
  have hsz:=hx2.lt
  go_wp2_with (first | (go_at_call 236;go_must (refine(Zt.out _).mono ?_;rintro e w3 ⟨rfl,hb3⟩)) | (go_at_call 141;go_must (refine(HA.out _).mono ?_;rintro e w4 ⟨rfl,hb4⟩)))
  go_ret
  have hB1:=hB0.trans ((aj _ (.cells #[.int .i64 (l:Nat),.int .i64 (n:Nat)] 3)).mono hB0.size)
  have hB2:=hB1.trans (hb2.mono hB1.size)
  have hB3:=hB2.trans ((aj w2 (.cells #[.int .i64 (d:Nat),.int .i64 (n:Nat)] 3)).mono hB2.size)
  have hB4:=hB3.trans (hb3.mono hB3.size)
  have bF:=hB4.trans ((aj w3 (.cells #[.int .i64 (p:Nat),.int .i64 (q:Nat),.int .i64 1] 3)).mono hB4.size)
  exact⟨rfl,bF.trans (hb4.mono bF.size)⟩
 ·have e:oD l hi n=p:=by unfold oD;rw[if_neg hn0,if_neg h3,if_neg h4,Int.toNat_natCast,hp]
  rw[e]
  clear hm1 e hp hn0
  unfold aF at Dq
  go_enter Tryz.func192,Tryz.ntmps192
  go_wp2_with (go_at_call 236;go_must (refine Dq.out.mono ?_;rintro e w2 ⟨rfl,hb2⟩;have hx2:=(hx0.alloc (.cells #[.int .i64 (l:Nat),.int .i64 (n:Nat)] 3)).kept hb2;have z6:w2.cell? ⟨w.heap.size,6,none⟩=some (.int .i64 l):=hx2.cell 6;have z7:w2.cell? ⟨w.heap.size,7,none⟩=some (.int .i64 hi):=hx2.cell 7))
  go_ret
  have hB1:=hB0.trans ((aj _ (.cells #[.int .i64 (l:Nat),.int .i64 (n:Nat)] 3)).mono hB0.size)
  exact⟨rfl,hB1.trans (hb2.mono hB1.size)⟩
end
section
open Go.RowKit
theorem KP(k:Int)(s:au)(kids:List Tr)(lo hi:Int):bg (.mk k s kids lo hi)=if k=2∨k=4 then bV 0 kids else if k=9 then oD lo hi (bV 0 kids) else addN (bV 0 kids) 1:=by
 rw[bg];rfl
theorem FN:∀ (l:List Tr),vH l=true→∀ i (h:i<l.length),allT l[i]=true
 | [],_,i,h=>by simp at h
 | x::l,hl,i,h=>by
  rw[vH,Bool.and_eq_true] at hl
  cases i with
  | zero=>exact hl.1
  | succ i=>exact FN l hl.2 i (by simpa using h)
theorem KQ:∀ (V:Vt) (w:World),Lies w V→allT V.tr=true→Calls Tryz.prog 144 #[.agg V.cells.toArray] w (aY w (.int .i64 (bg V.tr:Nat))):=by
 refine Vt.ind fun k s a cap kids lo hi ih=>?_
 intro w hL hall
 rw[Vt.jJ] at hall ⊢
 rw[KP]
 rw[allT,Bool.and_eq_true] at hall
 obtain⟨hk,hlo,hhi,hs,hkids⟩:=hL.open
 have hB0:=aj w (.cells (aC k s a kids.length cap lo hi).toArray 115)
 have hx0:=Box.new w (aC k s a kids.length cap lo hi).toArray 115
 have hsum:=Xo kids a cap _ (hs.kept hB0) (fun i hi2=>(hkids i hi2).kept hB0) (fun i hi2 u hu=>ih i hi2 u hu (by
  have:=FN _ hall.2 i (by simpa using hi2)
  rwa[List.getElem_map] at this))
 have hone:=hall.1
 have acA:bV 0 (kids.map Vt.tr)≤aF:=xQ _ _ (by simp[aF])
 have KR:k=9→yC lo hi=true:=fun e=>by
  unfold dV at hone
  rw[Bool.and_eq_true,Bool.and_eq_true,if_pos e] at hone
  exact hone.1.2
 generalize bV 0 (kids.map Vt.tr)=n at *
 have HS:=ah hsum
 show Calls Tryz.prog 144 #[.agg (aC k s a kids.length cap lo hi).toArray] w _
 clear hsum ih hall hone hL hs hkids
 generalize kids.length=len at *
 have SUM:True:=trivial
 by_cases h2:k=2∨k=4
 ·rw[if_pos h2]
  have e2:(k==2)=true∨((k==2)=false∧(k==4)=true):=by
   rcases h2 with rfl | rfl
   ·exact .inl rfl
   ·exact .inr ⟨rfl,rfl⟩
  clear h2 KR
  rcases e2 with e2 | ⟨e2,e4⟩
  all_goals
   go_enter Tryz.func144,Tryz.ntmps144
   go_wp2_with (go_at_call 142;go_must (refine HS.out.mono ?_;rintro e w2 ⟨rfl,hb2⟩;have hx2:=hx0.kept hb2;have z0:w2.cell? ⟨w.heap.size,0,none⟩=some (.int .i64 k):=hx2.cell 0))
   go_ret
   exact⟨rfl,hB0.trans (hb2.mono hB0.size)⟩
 rw[if_neg h2]
 have e2:(k==2)=false:=by rw[beq_eq_false_iff_ne];omega
 have e4:(k==4)=false:=by rw[beq_eq_false_iff_ne];omega
 by_cases h9:k=9
 ·rw[if_pos h9]
  have ht:=KR h9
  unfold yC at ht
  simp only[Bool.and_eq_true,Bool.or_eq_true,decide_eq_true_eq] at ht
  have Dt:=fun u=>Zr k s a len cap lo hi n u ⟨by omega,by omega⟩ ⟨by omega,by omega⟩ acA
  have HT:=ah Dt
  subst h9
  clear ht Dt KR h2
  go_enter Tryz.func144,Tryz.ntmps144
  go_wp2_with (first | (go_at_call 142;go_must (refine HS.out.mono ?_;rintro e w2 ⟨rfl,hb2⟩;have hx2:=hx0.kept hb2;have z0:w2.cell? ⟨w.heap.size,0,none⟩=some (.int .i64 9):=hx2.cell 0;have z1:w2.cell? ⟨w.heap.size,1,none⟩=some (.int .u64 (word s 0:Nat)):=hx2.cell 1;have z2:w2.cell? ⟨w.heap.size,2,none⟩=some (.int .u64 (word s 1:Nat)):=hx2.cell 2;have z3:w2.cell? ⟨w.heap.size,3,none⟩=some (.int .u64 (word s 2:Nat)):=hx2.cell 3;have z4:w2.cell? ⟨w.heap.size,4,none⟩=some (.int .u64 (word s 3:Nat)):=hx2.cell 4;have z5:w2.cell? ⟨w.heap.size,5,none⟩=some (.slice a len cap):=hx2.cell 5;have z6:w2.cell? ⟨w.heap.size,6,none⟩=some (.int .i64 lo):=hx2.cell 6;have z7:w2.cell? ⟨w.heap.size,7,none⟩=some (.int .i64 hi):=hx2.cell 7)) | (go_at_call 192;go_must (refine(HT.out _).mono ?_;rintro e w3 ⟨rfl,hb3⟩)))
  go_ret
  have hB2:=hB0.trans (hb2.mono hB0.size)
  exact⟨rfl,hB2.trans (hb3.mono hB2.size)⟩
 ·rw[if_neg h9]
  have e9:(k==9)=false:=by rw[beq_eq_false_iff_ne];exact h9
  have ha:=fun u=>xA u.heap.size 0 2 2 [n,1] (u.alloc (.cells #[.int .i64 (n:Nat),.int .i64 1] 3)) (pW u [n,1] (by simp)) (by intro y hy;simp at hy;rcases hy with rfl | rfl;exact acA;unfold aF;omega)
  rw[zZ acA] at ha
  have HA:=ah ha
  unfold aF at HA
  clear ha h2 h9 KR
  generalize addN n 1=ans at *
  go_enter Tryz.func144,Tryz.ntmps144
  go_wp2_with (first | (go_at_call 142;go_must (refine HS.out.mono ?_;rintro e w2 ⟨rfl,hb2⟩;have hx2:=hx0.kept hb2;have z0:w2.cell? ⟨w.heap.size,0,none⟩=some (.int .i64 k):=hx2.cell 0)) | (go_at_call 141;go_must (refine(HA.out _).mono ?_;rintro e w4 ⟨rfl,hb4⟩)))
  go_ret
  have hB2:=hB0.trans (hb2.mono hB0.size)
  have hB3:=hB2.trans ((aj w2 (.cells #[.int .i64 (n:Nat),.int .i64 1] 3)).mono hB2.size)
  exact⟨rfl,hB3.trans (hb4.mono hB3.size)⟩
end
section
open Go.RowKit
def EN(x:Tr):Nat:=addN (bg x) 1
def qY(a:Nat)(l:List Tr):Nat:=l.foldl (fun a x=>addN a (EN x)) a
theorem agX(x:Tr):EN x≤aF:=sG (zx x)
theorem ND:∀ (l:List Tr) (a:Nat),a≤aF→qY a l≤aF
 | [],_,h=>h
 | x::l,a,h=>ND l (addN a (EN x)) (sG h)
theorem Zu(l:List Tr)(j:Nat)(h:j<l.length):qY 0 (l.take (j+1))=addN (qY 0 (l.take j)) (EN l[j]):=by
 unfold qY;rw[List.take_succ_eq_append_getElem h,List.foldl_append];rfl
def qG(l:List Tr):Nat:=addN 1 (qY 0 l)
theorem acB(kids:List Vt)(a:Option Addr)(cap:Nat)(w:World)(sA:ak w (.slice a kids.length cap) 8 Vt.cells kids)(lA:∀ i (h:i<kids.length),Lies w kids[i])
  (ih:∀ i (h:i<kids.length) (u:World),Lies u kids[i]→Calls Tryz.prog 143 #[.agg kids[i].cells.toArray] u (aY u (.int .i64 (EN kids[i].tr:Nat)))) :
  Calls Tryz.prog 142 #[.func (.func 143) #[] #[],.slice a kids.length cap] w (aY w (.int .i64 (qY 0 (kids.map Vt.tr):Nat))):=by
 obtain⟨b,o,c1,c2,c3,c4,c5⟩:=sA.kids
 clear sA c4
 have HC:=ah c5;have HI:=ah ih;have LA:=ah lA
 clear c5 ih lA
 obtain⟨n,hn⟩:∃ n,kids.length=n:=⟨_,rfl⟩
 have HN:=ah hn
 have h3:∀ i,i<n→a=some ⟨b,o,none⟩:=by rw[←hn];exact c3
 have hnc:n≤cap:=by rw[←hn];exact c1
 rw[hn]
 clear c3 c1 hn
 go_enter Tryz.func142,Tryz.ntmps142
 go_wp2
 go_loopw [5,10] (fun v i wr=>∃ k:Nat,k≤n∧i=.int .i64 k∧v=.int .i64 (qY 0 ((kids.map Vt.tr).take k):Nat)∧Below w.heap.size w wr) (fun _ i _=>n - (intOf i).toNat)
 case atStart=>exact⟨0,Nat.zero_le _,rfl,rfl,Below.refl _ _⟩
 case round =>
  obtain⟨k,hk,rfl,rfl,hB⟩:=hrel
  by_cases hlt:k<n
  ·have hlk:k<kids.length:=by rw[HN.out];exact hlt
   obtain rfl:=h3 k hlt
   have e1:=HC.out k hlk wr hB
   have hw:=Zu (kids.map Vt.tr) k (by simpa using hlk)
   rw[List.getElem_map] at hw
   have hs1:qY 0 ((kids.map Vt.tr).take k)≤aF:=ND _ _ (by simp[aF])
   have hx1:=agX kids[k].tr
   have hlies:=LA.out k hlk
   have hcall:=HI.out k hlk
   generalize kids[k]=V at *
   generalize EN V.tr=x at *
   generalize qY 0 ((kids.map Vt.tr).take k)=s at *
   obtain⟨k5,s5,a5,cp5,bY,bZ,hi5⟩:=V
   obtain⟨x0,x1,x2,x3,x4,x5,x6,x7⟩:=qP e1
   have hbl:=World.block_lt_of_cell? wr _ x0
   have hB1:=hB.trans ((aj wr (.cells (aC k5 s5 a5 bY.length cp5 bZ hi5).toArray 115)).mono hB.size)
   have hcl:=hcall _ (hlies.kept hB1)
   have hadd:=fun u=>xA u.heap.size 0 2 2 [s,x] (u.alloc (.cells #[.int .i64 (s:Nat),.int .i64 (x:Nat)] 3)) (pW u [s,x] (by simp)) (by intro y hy;simp at hy;rcases hy with rfl | rfl;exact hs1;exact hx1)
   obtain⟨s2,hs2⟩:∃ s2,qY 0 ((kids.map Vt.tr).take (k+1))=s2:=⟨_,rfl⟩
   rw[zZ hs1,←hw,hs2] at hadd
   have HS2:=ah hs2
   have qX:=ah hcl
   have HAD:=ah hadd
   clear e1 hw hlies hcall hcl hadd hs1 hx1 hs2
   have hki:(k:Int)<(n:Int):=by omega
   have hk0:(0:Int)≤(k:Int):=by omega
   unfold aF at HAD
   go_wp2_with (first | (go_at_call 143;go_must (refine qX.out.mono ?_;rintro e w2 ⟨rfl,hb2⟩;have hB2:=hB1.trans (hb2.mono hB1.size);have hB3:=hB2.trans ((aj w2 (.cells #[.int .i64 (s:Nat),.int .i64 (x:Nat)] 3)).mono hB2.size))) | (go_at_call 141;go_must (refine(HAD.out _).mono ?_;rintro e w4 ⟨rfl,hb4⟩)))
   exact⟨⟨k+1,hlt,by push_cast;rfl,by rw[HS2.out],hB3.trans (hb4.mono hB3.size)⟩,by simp[intOf];omega⟩
  ·obtain rfl:k=n:=by omega
   rw[List.take_of_length_le (by rw[List.length_map,HN.out];exact Nat.le_refl _)]
   go_wp2
   go_ret
   exact⟨rfl,hB⟩
theorem acC(V:Vt)(w:World)(hL:Lies w V)(hall:allT V.tr=true):Calls Tryz.prog 143 #[.agg V.cells.toArray] w (aY w (.int .i64 (EN V.tr:Nat))):=by
 have hW:=fun u hu=>KQ V u hu hall
 have hle:=zx V.tr
 unfold EN
 generalize bg V.tr=x at *
 obtain⟨k,s,a,cap,kids,lo,hi⟩:=V
 have hB0:=aj w (.cells (aC k s a kids.length cap lo hi).toArray 115)
 have hw0:=hW _ (hL.kept hB0)
 have ha:=fun u=>xA u.heap.size 0 2 2 [x,1] (u.alloc (.cells #[.int .i64 (x:Nat),.int .i64 1] 3)) (pW u [x,1] (by simp)) (by intro y hy;simp at hy;rcases hy with rfl | rfl;exact hle;unfold aF;omega)
 rw[zZ hle] at ha
 have HA:=ah ha
 have HW:=ah hw0
 unfold aF at HA
 show Calls Tryz.prog 143 #[.agg (aC k s a kids.length cap lo hi).toArray] w _
 clear ha hw0 hW hL hall
 generalize addN x 1=ans at *
 go_enter Tryz.func143,Tryz.ntmps143
 go_wp2_with (first | (go_at_call 144;go_must (refine HW.out.mono ?_;rintro e w2 ⟨rfl,hb2⟩)) | (go_at_call 141;go_must (refine(HA.out _).mono ?_;rintro e w4 ⟨rfl,hb4⟩)))
 go_ret
 have hB2:=hB0.trans (hb2.mono hB0.size)
 have hB3:=hB2.trans ((aj w2 (.cells #[.int .i64 (x:Nat),.int .i64 1] 3)).mono hB2.size)
 exact⟨rfl,hB3.trans (hb4.mono hB3.size)⟩
theorem acD(l:List Vt)(a:Option Addr)(cap:Nat)(w:World)(sA:ak w (.slice a l.length cap) 8 Vt.cells l)(lA:∀ i (h:i<l.length),Lies w l[i])(hall:∀ i (h:i<l.length),allT l[i].tr=true) :
  Calls Tryz.prog 104 #[.slice a l.length cap] w (aY w (.int .i64 (qG (l.map Vt.tr):Nat))):=by
 have hs:=acB l a cap w sA lA (fun i h u hu=>acC l[i] u hu (hall i h))
 have hle:qY 0 (l.map Vt.tr)≤aF:=ND _ _ (by simp[aF])
 unfold qG
 generalize qY 0 (l.map Vt.tr)=x at *
 have ha:=fun u=>xA u.heap.size 0 2 2 [1,x] (u.alloc (.cells #[.int .i64 1,.int .i64 (x:Nat)] 3)) (pW u [1,x] (by simp)) (by intro y hy;simp at hy;rcases hy with rfl | rfl;unfold aF;omega;exact hle)
 rw[zZ (by unfold aF;omega)] at ha
 have HA:=ah ha
 have HS:=ah hs
 unfold aF at HA
 clear ha hs sA lA hall
 generalize l.length=n at *
 generalize addN 1 x=ans at *
 go_enter Tryz.func104,Tryz.ntmps104
 go_wp2_with (first | (go_at_call 142;go_must (refine HS.out.mono ?_;rintro e w2 ⟨rfl,hb2⟩)) | (go_at_call 141;go_must (refine(HA.out _).mono ?_;rintro e w4 ⟨rfl,hb4⟩)))
 go_ret
 have hB3:=hb2.trans ((aj w2 (.cells #[.int .i64 1,.int .i64 (x:Nat)] 3)).mono hb2.size)
 exact⟨rfl,hB3.trans (hb4.mono hB3.size)⟩
end
section
open Go.RowKit Go.Shelf
attribute [local go_sem] Oper.semAt_some
theorem jg:dQ Tryz.prog 24 3 (.int .i64 0) 1 8:=⟨Tryz.underlying24,info_parts (by kernel_rfl),rfl,by decide⟩
def alL(b B0:Nat)(w:World)(pre:List Nat)(W:World):Prop:=(∃ (a:Option Addr) (cap:Nat),Box W b #[.slice a pre.length cap] 24∧Own W B0 3 1 aO (.slice a pre.length cap) pre)∧B0≤W.heap.size∧Below b w W
set_option maxRecDepth 100000 in
theorem UM(Bq p g N S:Nat)(w:World)(hN:N≤1048576)(hT:Tab w)(hq:Box w Bq #[.pointer (some ⟨p,0,none⟩)] 315)(hB:fO w p g N S) :
  Calls Tryz.prog 245 #[.slice none 0 0,.func (.func 297) #[] #[.pointer (some ⟨Bq,0,none⟩)]] w (iU w 3 1 aO (gQ N S)):=by
 have hlen:=Om N S
 have hpos:=hT.pos
 have hgl:=hB.words.lt
 obtain⟨W0,hW0⟩:∃ W0,(w.alloc (.cells #[.slice none 0 0] 24))=W0:=⟨_,rfl⟩
 have hB0:Below w.heap.size w W0:=by rw[←hW0];exact aj _ _
 have hsz0:W0.heap.size=w.heap.size+1:=by rw[←hW0];simp
 have hn0:Box W0 w.heap.size #[.slice none 0 0] 24:=by rw[←hW0];exact Box.new _ _ _
 have hst:=Nv 5 Bq p g N S (fun b=>b=w.heap.size∨W0.heap.size≤b) W0 hN (by omega) (by omega) (hT.kept hB0) (hq.kept hB0) (hB.kept hB0)
 have HST:=ah hst
 clear hst hq hB
 refine(callsIn_wide (n:=6)).1 ?_
 refine callsIn_of_wp_marks Tryz.func245 rfl trivial ?_ rfl
 simp only[Tryz.ntmps245,List.size_toArray,List.length_cons,List.length_nil,Nat.reduceAdd,Nat.reduceSub,Array.replicate_succ,Array.replicate_zero,List.push_toArray,List.append_toArray,List.nil_append,List.cons_append]
 gi_wp2
 clear hW0
 refine wpIn_rangeFunc_ownF rfl (by decide) (gf:=297) (lb:=#[.pointer (some ⟨Bq,0,none⟩)]) rfl trivial (enters_of Tryz.func297 (by kernel_rfl) rfl)
  HST.out (fun h k=>h.trans k) Hy (Below.refl _ _) (fun _=>rfl)
  (alL w.heap.size W0.heap.size w) (fun _ _ _=>False)
  (OwnFrom.and (fun pre W W' row ⟨a,cap,h1,h2⟩ hg hr=>⟨a,cap,iC _ _ _ (fun _:Unit=>#[.slice a pre.length cap]) () W W' row h1 hg hr,Cj _ _ _ _ _ (fun _:Unit=>.slice a pre.length cap) (fun _=>pre) () W W' row h2 hg hr⟩)
   (OwnFrom.and (fun _ _ _ _ h hg _=>Nat.le_trans h hg.size) (ownFrom_below (Nat.le_refl _) (by omega))))
  (fun _=>PD _) ⟨⟨none,0,hn0,Own.nil _ _ _ _ _⟩,Nat.le_refl _,hB0⟩
  (fun x=>{ tmps:=#[.slice none 0 0,.func (.func 297) #[] #[.pointer (some ⟨Bq,0,none⟩)],.pointer (some ⟨w.heap.size,0,none⟩),undef,.slice none 0 0,.int .i64 (x:Nat),.func (.func 297) #[] #[.pointer (some ⟨Bq,0,none⟩)],.int .i64 (x:Nat),undef,undef,undef,undef,undef],defers:=[] }) ?assign ?body ?done ?stop
 case assign =>
  intro l x W K hK
  dsimp only[qU]
  go_simp
  gi_wp2
  exact hK
 case body =>
  rintro l pre x W ⟨⟨a,cap,hb,hown⟩,hWs,hB⟩ hlt
  have c0:=hb.cell 0
  have f0:=hb.free 0
  have hle:pre.length+1≤1048576:=by omega
  gi_wp2_with (gi_at_builtin;go_must (refine Jo rfl _ _ 24 rfl jg dN rfl (hown.alloc _) ⟨W.heap.size,0,none⟩ 1 x rfl (dD W [.int .i64 (x:Nat)] _) (by simp[maxLen];omega) (by omega) (by simp;omega) ?_;intro a' cap' W' hown' hg;change (W.alloc _).grownBy W' (Value.slice a pre.length cap).ownBlock at hg;have hbs:=(hb.alloc _).grown (hown.alloc _) hg (by omega);have hfs:=hbs.free 0;have hcs:=hbs.cell 0))
  have hlen':(pre++[x]).length=pre.length+1:=by simp
  refine⟨((KeepsOthers.alloc _ _).trans (KeepsOthers.Jp (hown.alloc _) hg)).trans (KeepsOthers.setCell _ _ _),((aQ.below ((Below.refl _ W).alloc (Nat.le_refl _) _)).trans (aQ.grown (hown.alloc _) hg (fun b hb=>.inr hb))).trans (aQ.set _ _ _ (.inl rfl)),⟨a',cap',?_,?_⟩,?_,?_⟩
  ·rw[hlen'];exact hbs.set 0 _
  ·rw[hlen'];exact hown'.other _ _ (by simp;omega)
  ·have:=hg.size;simp at this ⊢;omega
  ·exact(below_grown (hB.alloc hB.size _) (hown.alloc _) hg (by omega) (by simp;omega)).setCell (by simp) _
 case done =>
  rintro D ys W hD rfl ⟨⟨a,cap,hb,hown⟩,hWs,hB⟩ hK
  have c0:=hb.cell 0
  gi_wp2
  refine⟨by simp,.inl ⟨_,_,rfl,run_takeDeferred hK,?_⟩⟩
  refine⟨_,results_tmp rfl _ _ _,a,cap,rfl,?_,hB.trans (belowK_b (w:=w) (Nat.le_refl _) W D _ _ (by omega) hK rfl rfl)⟩
  exact(Cj W0.heap.size W0.heap.size 3 1 aO (fun _:Unit=>.slice a (gQ N S).length cap) (fun _=>gQ N S) () _ _ (some D) hown (grownBy_putObj' _ D (.deferred none)) (fun r e=>by cases e;exact⟨by omega,_,hK,rfl⟩)).mono (by omega)
 case stop =>
  rintro D c pre W _ _ h _
  exact h.elim
theorem Rq(Bq p g N S:Nat)(w:World)(hN:N≤1048576)(hT:Tab w)(hq:Box w Bq #[.pointer (some ⟨p,0,none⟩)] 315)(hB:fO w p g N S) :
  Calls Tryz.prog 216 #[.func (.func 297) #[] #[.pointer (some ⟨Bq,0,none⟩)]] w (iU w 3 1 aO (gQ N S)):=by
 have H:=ah (UM Bq p g N S w hN hT hq hB)
 clear hT hq hB
 go_enter Tryz.func216,Tryz.ntmps216
 go_wp2_with (go_at_call 245;go_must (refine H.out.mono ?_;rintro e w2 ⟨a,cap,rfl,ho,hb⟩))
 go_ret
 exact⟨a,cap,rfl,ho,hb⟩
theorem acE(p g N S:Nat)(w:World)(hN:N≤1048576)(hT:Tab w)(hB:fO w p g N S) :
  Calls Tryz.prog 262 #[.pointer (some ⟨p,0,none⟩)] w (iU w 3 1 aO (gQ N S)):=by
 have hA:=UG (some ⟨p,0,none⟩) w
 have hB0:=aj w (.cells #[.pointer (some ⟨p,0,none⟩)] 315)
 have H:=ah (Rq w.heap.size p g N S _ hN (hT.kept hB0) (Box.new _ _ _) (hB.kept hB0))
 have HA:=ah hA
 clear hT hB hA
 go_enter Tryz.func262,Tryz.ntmps262
 go_wp2_with (first | (go_at_call 283;go_must (refine HA.out.mono ?_;rintro e w2 ⟨rfl,rfl⟩)) | (go_at_call 216;go_must (refine H.out.mono ?_;rintro e w3 ⟨a,cap,rfl,ho,hb⟩)))
 go_ret
 exact⟨a,cap,rfl,ho.mono hB0.size,hB0.trans (hb.mono hB0.size)⟩
end
section
open Go.RowKit
def xB(x:Nat):Bool:=x==10||x==92||x==91||x==93||x==94||x==45
theorem PG(x:Nat)(w:World)(hx:x<256):Calls Tryz.prog 299 #[.int .u8 x] w (aY w (.bool (xB x))):=by
 by_cases h:xB x=true
 ·rw[h]
  unfold xB at h
  simp only[Bool.or_eq_true,beq_iff_eq] at h
  go_enter Tryz.func299,Tryz.ntmps299
  rcases h with((((rfl | rfl) | rfl) | rfl) | rfl) | rfl
  all_goals
   go_wp2
   go_ret
   exact⟨rfl,Below.refl _ _⟩
 ·have h:=Bool.eq_false_iff.2 h
  rw[h]
  unfold xB at h
  simp only[Bool.or_eq_false_iff,beq_eq_false_iff_ne] at h
  obtain⟨⟨⟨⟨⟨h1,h2⟩,h3⟩,h4⟩,h5⟩,h6⟩:=h
  have e1:((x:Int)==10)=false:=by simp;omega
  have e2:((x:Int)==92)=false:=by simp;omega
  have e3:((x:Int)==91)=false:=by simp;omega
  have e4:((x:Int)==93)=false:=by simp;omega
  have e5:((x:Int)==94)=false:=by simp;omega
  have e6:((x:Int)==45)=false:=by simp;omega
  go_enter Tryz.func299,Tryz.ntmps299
  go_wp2
  go_ret
  exact⟨rfl,Below.refl _ _⟩
end
end Go.Proofs.YtengfapcaaacaaaGreatDoor
