/- The texts of E37, in few letters (mini.py). -/
import Derived.Test.YtengfapcaaacaaaGreatDoorF8
set_option linter.unusedVariables false
set_option linter.unusedSimpArgs false
set_option maxRecDepth 20000
set_option maxHeartbeats 800000
namespace Go.Proofs.YtengfapcaaacaaaGreatDoor
open Go.RowKit
theorem UH(f:Nat→Nat)(hf:∀ b,f b<256)(w:World) :
  Calls Tryz.prog 76 #[.agg (aG f)] w (fV w 5 1 dY (aC (aH (aY f)) 256)):=by
 have hE:=gY (aY f)
 have hS:∀ wx,Calls Tryz.prog 121 #[.agg (aG f)] wx (fV wx 113 4 encS (kV (aH (aY f)) 256)):=fun wx=>zi f hf wx
 have hl:=lu (aH (aY f)) 256
 have hat:=Oz hE
 have hlt:=fun x=>jQ (aH (aY f)) 256 x
 have hm:=gU (aH (aY f)) 256
 have hw:=jK (aH (aY f))
 rw[hw] at hl
 generalize kV (aH (aY f)) 256=L at *
 generalize aC (aH (aY f)) 256=xs at *
 obtain⟨m,hxm⟩:∃ m,xs.length=m:=⟨_,rfl⟩
 rw[hxm] at hl hm
 have HS:=ah hS
 have HL:=ah hl
 have HA:=ah hat
 have HX:=ah hlt
 have HM:=ah hxm
 clear hE hS hl hat hlt hw hxm hf
 go_enter Tryz.func76,Tryz.ntmps76
 go_wp2_with (first | (refine wpList_load_row rfl 22 (.tmp 1) rfl _ rfl _ _ _ _ ((Box.new _ _ _).alloc _) Tryz.underlying22 rfl (aK _) ?_) | (go_at_call 121;go_must (refine(HS.out _).mono ?_;intro e w1 h1;obtain⟨a1,cap1,rfl,o1,hb1⟩:=h1;rw[HL.out] at o1 ⊢)))
 have ho0:Own w1 w.heap.size 5 1 dY (.slice (some ⟨w.heap.size+1,0,none⟩) 0 0) []:=(Own.empty' (by simp) w.heap.size 5 1 dY (by simp)).kept hb1
 have hB1:Below w.heap.size w w1:=(((Below.refl w.heap.size w).alloc (Nat.le_refl _) (.cells (aG f) 22)).alloc (by simp) (.cells #[] 5)).trans (hb1.mono (by simp;omega))
 have hsz:=hB1.size
 have hmx:=hb1.size
 rw[World.size_alloc,World.size_alloc] at hmx
 clear hb1
 go_loopw [3,5] (fun v i wr=>∃ (k:Nat) (a:Option Addr) (cap:Nat),k≤m∧i=.int .i64 k∧v=.slice a k cap∧Own wr w.heap.size 5 1 dY (.slice a k cap) (xs.take k)∧Own wr (w.heap.size+1+1) 113 4 encS (.slice a1 m cap1) L∧Below w.heap.size w wr) (fun _ i _=>m - (intOf i).toNat)
 case atStart=>exact⟨0,_,0,Nat.zero_le _,rfl,rfl,ho0,o1.mono (by simp),hB1⟩
 case round =>
  clear ho0 o1
  obtain⟨k,a,cap,hk,rfl,rfl,hown,hS,hB⟩:=hrel
  by_cases hlt:k<m
  ·have hk2:k<L.length:=by rw[HL.out];exact hlt
   have hk3:k<xs.length:=by rw[HM.out];exact hlt
   have hl1:=HA.out k hk2 hk3
   have hx:=HX.out _ (List.getElem_mem hk3)
   obtain⟨g1,rfl,hg1,_⟩:=hS.addr (by omega)
   obtain⟨⟨c0,c1,c2,c3⟩,_⟩:=hS.cells4 hk2
   have htk:xs.take (k+1)=xs.take k++[xs[k]]:=List.take_succ_eq_append_getElem hk3
   have hln:(xs.take k).length=k:=by rw[List.length_take];omega
   have hle:=fun w=>E8 L[k] w
   rw[hl1] at hle
   generalize xs[k]=x at *
   generalize L[k]=s at *
   generalize xs.take k=ys at *
   have KA:=ah hle
   have AX:=ah htk
   have oU:=ah hln
   have an4:ys.length≤256:=by omega
   have ZP:IntKind.u8.wrap (x:Int)=(x:Int):=kM x hx
   clear hl1 htk hln hle
   have hk0:(0:Int)≤(k:Int):=by omega
   have hkm:(k:Int)<(m:Int):=by omega
   go_wp2_with (first | (go_at_call 122;go_must (refine(KA.out _).mono ?_;rintro e w5 ⟨rfl,hb5⟩;have hown5:=hown.kept hb5)) | (at_builtin;go_must (refine dK rfl _ _ 35 rfl Jj zA rfl (hown5.alloc _) ⟨w5.heap.size,0,none⟩ 1 x rfl (bW w5 [.int .u8 (x:Nat)] _) (by simp[maxLen];omega) (by omega) (by have:=hb5.size;have:=hB.size;simp at *;omega) ?_;intro a' cap' W' hown' hg)))
   rw[oU.out] at hown' ⊢
   go_roundw
   case rel =>
    refine⟨k+1,a',cap',hlt,by go_num,rfl,by rw[AX.out];exact hown',((hS.kept hb5).alloc _).cu (hown5.alloc _) hg (by decide),?_⟩
    have h6:=hB.trans (hb5.mono hB.size)
    have h7:=h6.alloc h6.size (.cells #[.int .u8 (x:Nat)] 5)
    exact below_grown h7 (hown5.alloc _) hg (Nat.le_refl _) h7.size
   case measure=>simp[intOf];omega
  ·obtain rfl:k=m:=by omega
   have htk:xs.take k=xs:=List.take_of_length_le (by rw[HM.out];omega)
   go_wp2
   go_ret
   rw[htk] at hown
   exact⟨a,cap,by rw[HM.out];rfl,by rw[HM.out];exact hown,hB⟩
end Go.Proofs.YtengfapcaaacaaaGreatDoor
