/- The texts of N20, in few letters (mini.py). -/
import Derived.Test.YtengfapcaaacaaaGreatDoorM19
set_option linter.unusedVariables false
set_option linter.unusedSimpArgs false
set_option maxRecDepth 20000
set_option maxHeartbeats 1600000
namespace Go.Proofs.YtengfapcaaacaaaGreatDoor
section
open Go.RowKit
theorem afY(r qB:Nat)(a:Option Addr)(cap:Nat)(Rs:List (List UInt8×Vt))(m:Nat)(g:Nat×Nat)(n c:Nat)(s:List UInt8)(w:World)(h:rC w r qB a cap Rs m)(hs:ak w (.slice (some ⟨g.1,g.2,none⟩) n c) 1 bK s)(hn:n≤4611686018427387904) :
  Calls Tryz.prog 99 #[.pointer (some ⟨r,0,none⟩),.slice (some ⟨g.1,g.2,none⟩) n c] w (aeB w (sH (Rs.map (·.1)) s)):=by
 have hB0:=aj w (.cells #[.int .i64 0,.int .i64 0] 66)
 have h0:=h.kept hB0
 have hx0:=Box.new w #[.int .i64 0,.int .i64 0] 66
 have hrun:=Zj g.1 g.2 n c s _ (hs.kept hB0)
 have hC:=hs.cellsA
 obtain⟨hns,hnc,hc63,hCC⟩:=hC
 have HC:=ah hCC
 have ZY:=ah hns
 have hle:=vI true s
 have hconv:=fun u (hu:ak u (.slice (some ⟨g.1,g.2,none⟩) (runFrom true s) c) 1 bK (s.take (runFrom true s)))=>NQ (P:=Tryz.prog) (src:=35) (dst:=9) Tryz.underlying35 Tryz.underlying5 Tryz.underlying9 (by rw[List.length_take,Nat.min_eq_left hle]) hu
 have hlen:(Rs.map (·.1)).length=Rs.length:=by simp
 have hz:=OO
 unfold sH
 rw[hlen]
 generalize hk:runFrom true s=k at *
 have HR:=ah hrun
 have H0:=ah h0
 have HS:=ah hs
 have VH:=ah hconv
 have hkn:k≤n:=by omega
 clear hrun h0 hs hCC hconv hlen h hns hk
 by_cases h1:Rs.length=64
 ·rw[if_pos h1]
  have e1:((Rs.length:Int)==64)=true:=by rw[h1];rfl
  clear h1
  go_enter Tryz.func99,Tryz.ntmps99
  go_wp2_with (go_at_call 133;go_must (refine HR.out.mono ?_;rintro e w1 ⟨rfl,hb1⟩;have h1:=H0.out.kept hb1;have hx1:=hx0.kept hb1;have x0:=h1.box.cell 0;have x1:=h1.box.cell 1;have z0:=hx1.cell 0;have z1:=hx1.cell 1;have f0:=hx1.free 0;have f1:=hx1.free 1))
  exact jr Tryz.results99 rfl rfl ((hx1.set 0 (.int .i64 18)).set 1 (.int .i64 0)) Tryz.underlying66 rfl eu rfl ⟨rfl,((hB0.trans (hb1.mono hB0.size)).setCell (p:=⟨w.heap.size,0,none⟩) (by simp) (.int .i64 18)).setCell (p:=⟨w.heap.size,1,none⟩) (by simp) (.int .i64 0)⟩
 rw[if_neg h1]
 have e1:((Rs.length:Int)==64)=false:=by rw[beq_eq_false_iff_ne];omega
 clear h1
 by_cases h2:k=0
 ·rw[if_pos h2]
  have e2:((k:Int)==0)=true:=by rw[h2];rfl
  clear h2
  go_enter Tryz.func99,Tryz.ntmps99
  go_wp2_with (go_at_call 133;go_must (refine HR.out.mono ?_;rintro e w1 ⟨rfl,hb1⟩;have h1:=H0.out.kept hb1;have hx1:=hx0.kept hb1;have x0:=h1.box.cell 0;have x1:=h1.box.cell 1;have z0:=hx1.cell 0;have z1:=hx1.cell 1;have f0:=hx1.free 0;have f1:=hx1.free 1))
  exact jr Tryz.results99 rfl rfl ((hx1.set 0 (.int .i64 9)).set 1 (.int .i64 0)) Tryz.underlying66 rfl eu rfl ⟨rfl,((hB0.trans (hb1.mono hB0.size)).setCell (p:=⟨w.heap.size,0,none⟩) (by simp) (.int .i64 9)).setCell (p:=⟨w.heap.size,1,none⟩) (by simp) (.int .i64 0)⟩
 rw[if_neg h2]
 have e2:((k:Int)==0)=false:=by rw[beq_eq_false_iff_ne];omega
 clear h2
 by_cases h3:32<k
 ·rw[if_pos h3]
  have e3:decide ((32:Int)<(k:Int))=true:=by simp;omega
  have e3':(32:Int)<(k:Int):=by omega
  clear h3
  go_enter Tryz.func99,Tryz.ntmps99
  go_wp2_with (go_at_call 133;go_must (refine HR.out.mono ?_;rintro e w1 ⟨rfl,hb1⟩;have h1:=H0.out.kept hb1;have hx1:=hx0.kept hb1;have x0:=h1.box.cell 0;have x1:=h1.box.cell 1;have z0:=hx1.cell 0;have z1:=hx1.cell 1;have f0:=hx1.free 0;have f1:=hx1.free 1))
  exact jr Tryz.results99 rfl rfl ((hx1.set 0 (.int .i64 9)).set 1 (.int .i64 32)) Tryz.underlying66 rfl eu rfl ⟨rfl,((hB0.trans (hb1.mono hB0.size)).setCell (p:=⟨w.heap.size,0,none⟩) (by simp) (.int .i64 9)).setCell (p:=⟨w.heap.size,1,none⟩) (by simp) (.int .i64 32)⟩
 rw[if_neg h3]
 have e3:decide ((32:Int)<(k:Int))=false:=by simp;omega
 clear h3
 by_cases h4:aX s k 58=false
 ·rw[if_pos h4]
  by_cases h5:k=n
  ·have e4:((k:Int)==(n:Int))=true:=by rw[h5];simp
   clear h4 h5
   go_enter Tryz.func99,Tryz.ntmps99
   go_wp2_with (go_at_call 133;go_must (refine HR.out.mono ?_;rintro e w1 ⟨rfl,hb1⟩;have h1:=H0.out.kept hb1;have hx1:=hx0.kept hb1;have x0:=h1.box.cell 0;have x1:=h1.box.cell 1;have z0:=hx1.cell 0;have z1:=hx1.cell 1;have f0:=hx1.free 0;have f1:=hx1.free 1))
   exact jr Tryz.results99 rfl rfl ((hx1.set 0 (.int .i64 10)).set 1 (.int .i64 k)) Tryz.underlying66 rfl eu rfl ⟨rfl,((hB0.trans (hb1.mono hB0.size)).setCell (p:=⟨w.heap.size,0,none⟩) (by simp) (.int .i64 10)).setCell (p:=⟨w.heap.size,1,none⟩) (by simp) (.int .i64 k)⟩
  ·have e4:((k:Int)==(n:Int))=false:=by rw[beq_eq_false_iff_ne];omega
   have hks:k<s.length:=by rw[←ZY.out];omega
   have hy:=HC.out k hks
   have hne:((s[k].toNat:Int) != 58)=true:=by
    unfold aX at h4
    rw[decide_eq_true hks,Bool.true_and,List.getD_eq_getElem?_getD,List.getElem?_eq_getElem hks,Option.getD_some,beq_eq_false_iff_ne] at h4
    rw[bne_iff_ne]
    intro e
    refine h4 ?_
    apply UInt8.toNat_inj.1
    have:s[k].toNat=58:=by omega
    rw[this];rfl
   generalize s[k]=x at *
   have HY:=ah hy
   have hki:(k:Int)<(n:Int):=by omega
   have hk0:(0:Int)≤(k:Int):=by omega
   clear h4 h5 hy hks
   go_enter Tryz.func99,Tryz.ntmps99
   go_wp2_with (go_at_call 133;go_must (refine HR.out.mono ?_;rintro e w1 ⟨rfl,hb1⟩;have h1:=H0.out.kept hb1;have hx1:=hx0.kept hb1;have x0:=h1.box.cell 0;have x1:=h1.box.cell 1;have z0:=hx1.cell 0;have z1:=hx1.cell 1;have f0:=hx1.free 0;have f1:=hx1.free 1;have y0:=HY.out w1 (hB0.trans (hb1.mono hB0.size))))
   exact jr Tryz.results99 rfl rfl ((hx1.set 0 (.int .i64 10)).set 1 (.int .i64 k)) Tryz.underlying66 rfl eu rfl ⟨rfl,((hB0.trans (hb1.mono hB0.size)).setCell (p:=⟨w.heap.size,0,none⟩) (by simp) (.int .i64 10)).setCell (p:=⟨w.heap.size,1,none⟩) (by simp) (.int .i64 k)⟩
 rw[if_neg h4]
 have hks:k<s.length:=by
  unfold aX at h4
  rw[Bool.not_eq_false,Bool.and_eq_true,decide_eq_true_eq] at h4
  exact h4.1
 have e4:((k:Int)==(n:Int))=false:=by rw[beq_eq_false_iff_ne];have:=ZY.out;omega
 have hy:=HC.out k hks
 have hne:((s[k].toNat:Int) != 58)=false:=by
  unfold aX at h4
  rw[Bool.not_eq_false,Bool.and_eq_true,List.getD_eq_getElem?_getD,List.getElem?_eq_getElem hks,Option.getD_some,beq_iff_eq] at h4
  rw[h4.2];rfl
 generalize s[k]=x at *
 have HY:=ah hy
 have hki:(k:Int)<(n:Int):=by have:=ZY.out;omega
 have hk0:(0:Int)≤(k:Int):=by omega
 have hkc:(k:Int)≤(c:Int):=by have:=ZY.out;omega
 have apU:IntKind.i64.wrap (k:Int)=(k:Int):=by rw[IntWalk.i64_in _ (by omega)]
 clear h4 hy hks
 cases h5:(Rs.map (·.1)).contains (s.take k) with
 | true =>
  rw[if_pos rfl]
  have HH:=ah h5
  clear h5
  go_enter Tryz.func99,Tryz.ntmps99
  go_wp2_with (go_at_call 133;go_must (refine HR.out.mono ?_;rintro e w1 ⟨rfl,hb1⟩;have h1:=H0.out.kept hb1;have hx1:=hx0.kept hb1;have x0:=h1.box.cell 0;have x1:=h1.box.cell 1;have z0:=hx1.cell 0;have z1:=hx1.cell 1;have f0:=hx1.free 0;have f1:=hx1.free 1;have y0:=HY.out w1 (hB0.trans (hb1.mono hB0.size));have hcv:=VH.out w1 ((HS.out.kept (hB0.trans (hb1.mono hB0.size))).aeA k (by omega));have hlk:=lF h1.map mQ Tryz.underlying101 (hz w1) (s.take k);rw[Ar,HH.out] at hlk))
  exact jr Tryz.results99 rfl rfl ((hx1.set 0 (.int .i64 8)).set 1 (.int .i64 0)) Tryz.underlying66 rfl eu rfl ⟨rfl,((hB0.trans (hb1.mono hB0.size)).setCell (p:=⟨w.heap.size,0,none⟩) (by simp) (.int .i64 8)).setCell (p:=⟨w.heap.size,1,none⟩) (by simp) (.int .i64 0)⟩
 | false =>
  rw[if_neg (by simp)]
  have HH:=ah h5
  clear h5
  go_enter Tryz.func99,Tryz.ntmps99
  go_wp2_with (go_at_call 133;go_must (refine HR.out.mono ?_;rintro e w1 ⟨rfl,hb1⟩;have h1:=H0.out.kept hb1;have hx1:=hx0.kept hb1;have x0:=h1.box.cell 0;have x1:=h1.box.cell 1;have z0:=hx1.cell 0;have z1:=hx1.cell 1;have f0:=hx1.free 0;have f1:=hx1.free 1;have y0:=HY.out w1 (hB0.trans (hb1.mono hB0.size));have hcv:=VH.out w1 ((HS.out.kept (hB0.trans (hb1.mono hB0.size))).aeA k (by omega));have hlk:=lF h1.map mQ Tryz.underlying101 (hz w1) (s.take k);rw[Ar,HH.out] at hlk))
  exact jr Tryz.results99 rfl rfl ((hx1.set 0 (.int .i64 0)).set 1 (.int .i64 0)) Tryz.underlying66 rfl eu rfl ⟨rfl,((hB0.trans (hb1.mono hB0.size)).setCell (p:=⟨w.heap.size,0,none⟩) (by simp) (.int .i64 0)).setCell (p:=⟨w.heap.size,1,none⟩) (by simp) (.int .i64 0)⟩
end
section
open Go.RowKit
def Stop(p:Prop):Prop:=p
theorem Stop.go{p:Prop}(h:Stop p):p:=h
theorem Stop.gen{P:Program}{ops:Array Oper}{l:List Oper}{Q:Exit→Act→World→Prop}{a:Act}{w:World}(h:∀ W,W=w→wpList P ops Q l a W):Stop (wpList P ops Q l a w):=h w rfl
def XJ(r qB:Nat)(a:Option Addr)(cap:Nat)(Rs:List (List UInt8×Vt))(m:Nat)(w:World)(ans:Sum (Nat×Nat) (List UInt8×Tr))(e:Ending)(w':World):Prop :=
 match ans with
 | .inl q=>e=.returned (dZ q.1 q.2)∧rC w' r qB a cap Rs m∧dH r m (.slice a Rs.length cap) w w'
 | .inr q=>∃ a' cap' V,e=.returned (dZ 0 0)∧V.tr=q.2∧rC w' r qB a' cap' (Rs++[(q.1,V)]) m∧dH r m (.slice a Rs.length cap) w w'∧dW w (.slice a Rs.length cap) (.slice a' (Rs.length+1) cap')
theorem Ei{κ:Type}[DecidableEq κ]{k:κ}{z:Value}:∀ {kvs:List (κ×Value)},look k kvs=some z→∃ p∈kvs,p.2=z
 | [],h=>by rw[look] at h;cases h
 | p::r,h=>by
  rw[look] at h
  by_cases hk:k=p.1
  ·rw[if_pos hk] at h;exact⟨p,by simp,Option.some.inj h⟩
  ·rw[if_neg hk] at h
   obtain⟨q,h1,h2⟩:=Ei h
   exact⟨q,List.mem_cons_of_mem _ h1,h2⟩
theorem Ig.open{w w':World}{x:Tr}{e:Ending}(h:Ig w (.inr x) e w'):∃ k s a cap kids lo hi,e=.returned (.tuple #[.agg (aC k s a (List.length kids) cap lo hi).toArray,.agg #[.int .i64 0,.int .i64 0]])∧(Vt.mk k s a cap kids lo hi).tr=x∧Lies w' (.mk k s a cap kids lo hi)∧On (fun b=>w.heap.size≤b) (.mk k s a cap kids lo hi)∧Below w.heap.size w w':=by
 obtain⟨hb,⟨k,s,a,cap,kids,lo,hi⟩,h1,h2,h3,h4⟩:=h
 exact⟨k,s,a,cap,kids,lo,hi,h1,h2,h3,h4,hb⟩
theorem afZ(N:Nat)(hN:N≤1099511627776)(r qB:Nat)(a:Option Addr)(cap:Nat)(Rs:List (List UInt8×Vt))(m:Nat)(g:Nat×Nat)(n c:Nat)(s:List UInt8)(w:World)(h:rC w r qB a cap Rs m)(hs:ak w (.slice (some ⟨g.1,g.2,none⟩) n c) 1 bK s)(hn:n≤65536)(hRs:Rs.length≤64)
  (hg:g.1<w.heap.size) (hb:qB≤w.heap.size) (Sj:OG s) (ans:Sum (Nat×Nat) (List UInt8×Tr)) (hans:zB N (Rs.map (·.1)) s=some ans) (hq:∀ q,ans=.inl q→q.2≤4611686018427387904) :
  Calls Tryz.prog 63 #[.pointer (some ⟨r,0,none⟩),.slice (some ⟨g.1,g.2,none⟩) n c] w (XJ r qB a cap Rs m w ans):=by
 have zi:=ah Sj
 clear Sj
 have hB0:=aj w (.cells #[.int .i64 0,.int .i64 0] 66)
 have h0:=h.kept hB0
 have hx0:=Box.new w #[.int .i64 0,.int .i64 0] 66
 have hs0:=hs.kept hB0
 have hhd:=afY r qB a cap Rs m g n c s _ h0 hs0 (by omega)
 have hns:=hs.cellsA.1
 have hnc:=hs.cellsA.2.1
 have hc63:=hs.cellsA.2.2.1
 have hW0:(w.alloc (.cells #[.int .i64 0,.int .i64 0] 66)).heap.size=w.heap.size+1:=by simp
 rw[xW] at hans
 have H0:=ah h0
 have Z4:=ah hs0
 have ZY:=ah hns
 unfold aeB at hhd
 cases hp:sH (Rs.map (·.1)) s with
 | inl q =>
  rw[hp] at hans hhd
  obtain rfl:=Option.some.inj hans
  have hq0:=Sl hp
  have ek:((q.1:Int) != 0)=true:=by rw[bne_iff_ne];omega
  have HH:=ah hhd
  obtain⟨qk,qp⟩:=q
  have H:=ah h
  clear hans hhd hp h0 hs0 hs h hq0 hns hq
  dsimp only at HH ek
  go_enter Tryz.func63,Tryz.ntmps63
  go_wp2_with (first | (go_at_call 99;go_must (refine HH.out.mono ?_;rintro e w1 ⟨rfl,hb1⟩;have h1:=H0.out.kept hb1;have hx1:=hx0.kept hb1;have z0:=hx1.cell 0;have z1:=hx1.cell 1;have f0:=hx1.free 0;have f1:=hx1.free 1;have hz1:=hx1.lt;unfold dZ)))
  have hB1:=hB0.trans (hb1.mono hB0.size)
  have hB2:=(hB1.setCell (p:=⟨w.heap.size,0,none⟩) (by simp) (.int .i64 qk)).setCell (p:=⟨w.heap.size,1,none⟩) (by simp) (.int .i64 qp)
  have hB3:=hB2.trans ((aj _ (.cells #[.int .i64 qk,.int .i64 qp] 66)).mono hB2.size)
  exact cZ Tryz.results63 rfl (cs:=#[.int .i64 qk,.int .i64 qp]) (((hx1.set 0 _).set 1 _).alloc _) Tryz.underlying66 rfl eu rfl ⟨rfl,H.out.kept hB3,dH.below hB3⟩
 | inr nm =>
  rw[hp] at hans hhd
  dsimp only at hans hhd
  obtain⟨hnl,yS,rD,hn32⟩:=Gl hp
  cases hpp:tZ N (s.drop (nm.length+1)) with
  | none=>rw[hpp] at hans;cases hans
  | some P =>
   rw[hpp] at hans
   have apV:nm.length+1≤n:=by omega
   have hhi:(nm.length:Int)+1≤(n:Int):=by omega
   have hhi2:(n:Int)≤(c:Int):=by omega
   have lq:=ah hans
   have HQ:=ah hq
   have Lp:=ah (show _∧_∧_ from⟨hnl,yS,rD⟩)
   have HH:=ah hhd
   have H:=ah h
   have ahn:∀ p,P=.inl p→p.1≠0:=fun p e=>OQ (by rw[←e];exact hpp)
   by_cases hcc:c=nm.length+1
   ·obtain rfl:n=nm.length+1:=by omega
    have hdr:s.drop (nm.length+1)=[]:=List.drop_eq_nil_of_le (by omega)
    rw[hdr] at hpp
    have htx:=fun u (hl:g.1<u.heap.size)=>Ll N hN g 0 0 [] u ⟨_,g.1,g.2,0,rfl,Nat.le_refl _,by simp[maxLen],.inl rfl,fun i hi=>by simp at hi⟩ hl (zi.out.of fun b hb=>by cases hb) P hpp
    have HT:=ah htx
    clear hhd htx h0 hs0 hs h hp hns hnl hc63 rD yS hpp hans hq hdr
    subst hcc
    cases P with
    | inl p =>
     obtain⟨pk,pp⟩:=p
     have Jw:=ahn _ rfl
     have ek:((pk:Int) != 0)=true:=by rw[bne_iff_ne];have:pk≠0:=Jw;omega
     obtain rfl:=Option.some.inj lq.out
     have Lr:pp+(nm.length+1)≤4611686018427387904:=HQ.out _ rfl
     have CO:pp≤4611686018427387904:=by omega
     have HPL:=ah Lr
     clear Jw Lr
     go_enter Tryz.func63,Tryz.ntmps63
     go_wp2_with (first | (go_at_call 99;go_must (refine HH.out.mono ?_;rintro e w1 ⟨rfl,hb1⟩;have h1:=H0.out.kept hb1;have hx1:=hx0.kept hb1;have z0:=hx1.cell 0;have z1:=hx1.cell 1;have f0:=hx1.free 0;have f1:=hx1.free 1;have hz1:=hx1.lt;unfold dZ)) | (go_at_call 100;go_must (refine(HT.out _ (by have:=hb1.size;simp;omega)).mono ?_;rintro e w3 ⟨hb3,rfl⟩;have hx3:=(hx1.alloc (.cells #[.int .i64 0,.int .i64 0] 66)).kept hb3;have hy3:=(Box.new w1 #[.int .i64 0,.int .i64 0] 66).kept hb3;have l1:=hy3.lt;have l0:=hx3.lt;have y0:=hx3.cell 0;have y1:=hx3.cell 1;have g0:=hx3.free 0;have g1:=hx3.free 1;have q0:=hy3.cell 0;have q1:=hy3.cell 1;have r0:=hy3.free 0;have r1:=hy3.free 1;unfold dZ)) | (with_reducible refine Stop.go (p:=wpList _ _ _ ({ dst:=some 37,op:=_,type:=_,pos:=_,after:=_,guard:=_ }::_) _ _) ?_))
     refine Stop.gen fun W hW=>?_
     have hzw:=hx1.lt
     have hBW:Below w.heap.size w W:=by
      have hB1:=hB0.trans (hb1.mono hB0.size)
      have hB2:=hB1.trans ((aj w1 (.cells #[.int .i64 0,.int .i64 0] 66)).mono hB1.size)
      have hB3:=hB2.trans (hb3.mono hB2.size)
      have hB4:=((hB3.setCell (p:=⟨w1.heap.size,0,none⟩) (Nat.le_of_lt hzw) (.int .i64 (pk:Nat))).setCell (p:=⟨w1.heap.size,1,none⟩) (Nat.le_of_lt hzw) (.int .i64 (pp:Nat))).setCell (p:=⟨w1.heap.size,1,none⟩) (Nat.le_of_lt hzw) (.int .i64 ((pp:Int)+((nm.length:Int)+1)))
      rw[hW]
      exact hB4.trans ((aj _ _).mono hB4.size)
     have hX:Box W w.heap.size #[.int .i64 0,.int .i64 0] 66:=by
      rw[hW]
      exact(((hx3.other ⟨w1.heap.size,0,none⟩ (.int .i64 (pk:Nat)) (by show w.heap.size≠w1.heap.size;omega)).other ⟨w1.heap.size,1,none⟩ (.int .i64 (pp:Nat)) (by show w.heap.size≠w1.heap.size;omega)).other ⟨w1.heap.size,1,none⟩ (.int .i64 ((pp:Int)+((nm.length:Int)+1))) (by show w.heap.size≠w1.heap.size;omega)).alloc _
     have hY:Box W w1.heap.size #[.int .i64 pk,.int .i64 ((pp:Int)+((nm.length:Int)+1))] 66:=by
      rw[hW]
      exact(((hy3.set 0 (.int .i64 (pk:Nat))).set 1 (.int .i64 (pp:Nat))).set 1 (.int .i64 ((pp:Int)+((nm.length:Int)+1)))).alloc _
     clear hW y0 y1 g0 g1 q0 q1 r0 r1 l0 l1 hx3 hy3 hb3 hx1 z0 z1 f0 f1 hz1
     have c0:=hX.cell 0
     have c1:=hX.cell 1
     have d0:=hX.free 0
     have d1:=hX.free 1
     have c2:=hY.cell 0
     have c3:=hY.cell 1
     go_wp2
     have lY:=(hBW.setCell (p:=⟨w.heap.size,0,none⟩) (by simp) (.int .i64 (pk:Nat))).setCell (p:=⟨w.heap.size,1,none⟩) (by simp) (.int .i64 ((pp:Int)+((nm.length:Int)+1)))
     exact cZ Tryz.results63 rfl (cs:=#[.int .i64 pk,.int .i64 ((pp:Int)+((nm.length:Int)+1))]) ((hX.set 0 _).set 1 _) Tryz.underlying66 rfl eu rfl ⟨by unfold dZ;congr 5,H.out.kept lY,dH.below lY⟩
    | inr x =>
     obtain rfl:=Option.some.inj lq.out
     go_enter Tryz.func63,Tryz.ntmps63
     go_wp2_with (first | (go_at_call 99;go_must (refine HH.out.mono ?_;rintro e w1 ⟨rfl,hb1⟩;have h1:=H0.out.kept hb1;have hx1:=hx0.kept hb1;have z0:=hx1.cell 0;have z1:=hx1.cell 1;have f0:=hx1.free 0;have f1:=hx1.free 1;have hz1:=hx1.lt;unfold dZ)) | (go_at_call 100;go_must (refine(HT.out _ (by have:=hb1.size;simp;omega)).mono ?_;intro e w3 htb;obtain⟨k5,s5,a5,cp5,bY,bZ,hi5,rfl,hV,hl3,qy,hb3⟩:=htb.open;have hx3:=(hx1.alloc (.cells #[.int .i64 0,.int .i64 0] 66)).kept hb3;have hy3:=(Box.new w1 #[.int .i64 0,.int .i64 0] 66).kept hb3;have l1:=hy3.lt;have l0:=hx3.lt;have y0:=hx3.cell 0;have y1:=hx3.cell 1;have g0:=hx3.free 0;have g1:=hx3.free 1;have q0:=hy3.cell 0;have q1:=hy3.cell 1;have r0:=hy3.free 0;have r1:=hy3.free 1;have HV:=ah hV;clear hV htb)) | (with_reducible refine Stop.go (p:=wpList _ _ _ ({ dst:=some 41,op:=_,type:=_,pos:=_,after:=_,guard:=_ }::_) _ _) ?_))
     refine Stop.gen fun W hW=>?_
     have hzw:=hx1.lt
     obtain⟨V,Dw⟩:∃ V,Vt.mk k5 s5 a5 cp5 bY bZ hi5=V:=⟨_,rfl⟩
     have hB1:=hB0.trans (hb1.mono hB0.size)
     have hB2:=hB1.trans ((aj w1 (.cells #[.int .i64 0,.int .i64 0] 66)).mono hB1.size)
     have hB3:=hB2.trans (hb3.mono hB2.size)
     have hB4:=(hB3.setCell (p:=⟨w1.heap.size,0,none⟩) (Nat.le_of_lt hzw) (.int .i64 0)).setCell (p:=⟨w1.heap.size,1,none⟩) (Nat.le_of_lt hzw) (.int .i64 0)
     have hBW:Below w.heap.size w W:=by
      rw[hW]
      exact hB4.trans ((aj _ _).mono hB4.size)
     have hX:Box W w.heap.size #[.int .i64 0,.int .i64 0] 66:=by
      rw[hW]
      exact((hx3.other ⟨w1.heap.size,0,none⟩ (.int .i64 0) (by show w.heap.size≠w1.heap.size;omega)).other ⟨w1.heap.size,1,none⟩ (.int .i64 0) (by show w.heap.size≠w1.heap.size;omega)).alloc _
     have hY:Box W w3.heap.size (aC k5 s5 a5 bY.length cp5 bZ hi5).toArray 115:=by
      rw[hW]
      exact Box.new' (by simp) _ _
     have Z5:Lies W V:=by
      rw[hW,←Dw]
      refine(hl3.eH qy fun b hb=>?_).kept (aj _ _)
      rw[World.size_alloc] at hb
      exact(heap_setCell_other _ ⟨w1.heap.size,1,none⟩ b _ (by show b≠w1.heap.size;omega)).trans (heap_setCell_other _ ⟨w1.heap.size,0,none⟩ b _ (by show b≠w1.heap.size;omega))
     have Lm:On (fun b=>w.heap.size<b) V:=by
      rw[←Dw]
      exact qy.mono fun b hb=>by rw[World.size_alloc] at hb;omega
     have Z7:Box W w3.heap.size V.cells.toArray 115:=by rw[←Dw];exact hY
     have hcell:(aC k5 s5 a5 bY.length cp5 bZ hi5).toArray=V.cells.toArray:=by rw[←Dw];rfl
     have Sr:=HV.out
     rw[Dw] at Sr
     have hS:=H.out.kept hBW
     have hlt:=hS.lt
     obtain⟨W2,hput,hm2,ho2,hsz2,Gm⟩:=hS.map.rX mQ Tryz.underlying101 nm (.bool true)
     obtain⟨hnl,yS,rD⟩:=Lp.out
     have hw3:=l0
     have Sv:Rs.length≠64:=by simpa using rD
     clear hW y0 y1 g0 g1 q0 q1 r0 r1 l0 l1 hx3 hy3 hl3 qy hB4 hB3 hB2 hB1 hb3 z0 z1 f0 f1 hz1 hx1 HV hY Dw
     have c0:=hS.box.cell 0
     have c1:=hS.box.cell 1
     have hol:∀ g,(Value.slice a Rs.length cap).ownBlock=some g→g<w.heap.size:=fun g hg=>(H.out.lg g hg).2
     have hb2:Box W2 r #[.slice a Rs.length cap,.map (some m)] 103:=(ho2 r hlt.2.2).trans hS.box
     have hown2:Own W2 qB 117 9 jc (.slice a Rs.length cap) Rs:=hS.own.fC fun g hg=>ho2 g (by have:=(hS.lg g hg).1;omega)
     have wO:aJ W2 m (fun s:List UInt8=>sv s) (vP (Rs++[(nm,V)])):=by
      rw[kT] at hm2
      ·rw[vP,List.map_append];exact hm2
      ·have:=Ar nm Rs
       rw[yS] at this
       cases hlk:look nm (vP Rs) with
       | none=>rfl
       | some z =>
        obtain⟨p,hp,hpe⟩:=Ei hlk
        rw[vP,List.mem_map] at hp
        obtain⟨q,_,rfl⟩:=hp
        rw[hlk] at this
        cases hpe
        cases this
     have hl2:∀ i (h:i<Rs.length),Lies W2 Rs[i].2:=fun i h=>(hS.lies i h).eH (hS.on i h) fun b hb=>ho2 b (by have:=hb.1;omega)
     have Sm:Lies W2 V:=Z5.eH Lm fun b hb=>ho2 b (by omega)
     have hX2:Box W2 w.heap.size #[.int .i64 0,.int .i64 0] 66:=(ho2 _ (by omega)).trans hX
     have hsw:=hBW.size
     have hwW:=hX.lt
     have Sz:Box W2 w3.heap.size (aC k5 s5 a5 bY.length cp5 bZ hi5).toArray 115:=(ho2 _ (by have:=hlt.2.1;omega)).trans (hcell▸Z7)
     have hk2:dH r m (.slice a Rs.length cap) w W2:=by
      have h1:=Gm m (Nat.le_refl _)
      exact⟨h1.os.trans hBW.os,h1.tape.trans hBW.tape,h1.output.trans hBW.output,Nat.le_trans hBW.size h1.size,fun b hb _ h2 _=>(ho2 b h2).trans (hBW.block b hb)⟩
     have HF:Hid (∀ u,Later W2.drew u→Box u r #[.slice a Rs.length cap,.map (some m)] 103∧Own u qB 117 9 jc (.slice a Rs.length cap) Rs∧aJ u m (fun s:List UInt8=>sv s) (vP (Rs++[(nm,V)]))∧(∀ i (h:i<Rs.length),Lies u Rs[i].2)∧Lies u V∧Box u w.heap.size #[.int .i64 0,.int .i64 0] 66∧Box u w3.heap.size (aC k5 s5 a5 bY.length cp5 bZ hi5).toArray 115∧dH r m (.slice a Rs.length cap) w u):=ah fun u hu=>by
      have hB:Below W2.heap.size W2 u:=((Below.refl _ W2).drew).trans hu
      exact⟨hb2.kept hB,hown2.kept hB,wO.kept hB,fun i h=>(hl2 i h).kept hB,Sm.kept hB,hX2.kept hB,Sz.kept hB,hk2.tr (dH.below hB)⟩
     have IL:=ah hS.on
     have HHL:=ah hlt
     have Z8:=ah Lm
     have HOL:=ah hol
     have ajU:Rs.length<64:=by have:=hRs;omega
     have Ls:jc (nm,V)=sv nm::aC k5 s5 a5 bY.length cp5 bZ hi5:=by
      have:=congrArg Array.toList hcell
      exact congrArg (sv nm::·) this.symm
     have HEV:=ah Ls
     have Lu:=ah Sr
     have jG:=ah hBW
     clear hol hb2 hown2 wO hl2 Sm hX2 hk2 hS hm2 Gm hlt Lm Z5 hX Z7 hcell hnl yS rD Sv Ls Sr
     go_wp2_with fail
     clear hput ho2 hsz2 c0 c1 Sz
     refine jq (R:=Later) [9,12] (by kernel_rfl) ?_
     refine DZ (T:=[9,12]) (i:=6) rfl (by kernel_rfl) (by kernel_rfl) (by kernel_rfl) (by kernel_rfl) (fun _ _ _ h=>h) (by rfl) (fun w1 hl=>lW 115 _ rfl _ rfl ((HF.out w1 hl).2.2.2.2.2.2.1) Tryz.underlying115 rfl ((by kernel_rfl))) ?_
     simp only[eA,eB,eC,Act.put,eD,eE,eF]
     refine pl [0,1,2,3] ?_
     repeat
      refine oM ?_ rfl (fun w1=>?_) ?_
      rotate_left
      ·go_simp;try with_reducible rfl
      simp only[eA,eB,eC,Act.put,eD,eE,eF]
     refine bU ?_
     refine AY 4 ?_ rfl (fun w1 hl=>?_) ?_
     rotate_left
     ·obtain⟨hB0,_⟩:=HF.out w1 hl;have x0:=hB0.cell 0;have x1:=hB0.cell 1;go_simp;try with_reducible rfl
     simp only[eA,eB,eC,Act.put,eD,eE,eF]
     refine pl [5,7] ?_
     repeat
      refine oM ?_ rfl (fun w1=>?_) ?_
      rotate_left
      ·go_simp;try with_reducible rfl
      simp only[eA,eB,eC,Act.put,eD,eE,eF]
     refine bU ?_
     refine dw (T:=[9,12]) (i:=8) (by kernel_rfl) rfl (fun w1 hl K hK=>?_)
     go_simp
     refine hK.out _ _ (fun _=>aj _ _) ?_
     have hsl:=qL Aq w1 117 [(nm,V)] (by simp[maxLen])
     rw[List.flatMap_cons,List.flatMap_nil,List.append_nil,HEV.out] at hsl
     have hlA:Later _ (w1.alloc (.cells (sv nm::aC k5 s5 a5 bY.length cp5 bZ hi5).toArray 117)):=Later.trans _ _ _ hl (aj _ _)
     clear hK K hl
     refine dw (T:=[9,12]) (i:=9) (by kernel_rfl) rfl (fun w1 hl K hK=>?_)
     obtain⟨e1,e2,e3,e4,e5,e6,_,e8⟩:=HF.out w1 (Later.trans _ _ _ hlA hl)
     have hnw:=FB (hsl.kept hl)
     have hsw:qB≤w1.heap.size:=by have:=e8.size;omega
     clear hsl hl hlA
     refine gu (by rfl) ?_
     refine pU _ _ 64 rfl OM Aq rfl e2 _ 1 ((nm,V):List UInt8×Vt) rfl hnw (by simp[maxLen];omega) (by omega) (by omega) ?_
     intro a' cap' w' hown' hg hfr
     refine hK.out _ _ (fun h=>absurd h (by decide)) ?_
     clear hK K hnw
     simp only[List.getElem_toArray,List.getElem_cons_zero,List.getElem_cons_succ,Act.put,List.setIfInBounds_toArray,List.set_cons_zero,List.set_cons_succ]
     have HP:=ah fun u (hu:Later w' u)=>VO e1 e2 e3 e4 IL.out e5 Z8.out HOL.out e6 e8 HHL.out hb hown' hg hfr hu
     clear e1 e2 e3 e4 e5 e6 e8 hown' hg hfr hsw HF IL
     refine pl [10,11] ?_
     repeat
      refine oM ?_ rfl (fun w1=>?_) ?_
      rotate_left
      ·go_simp;try with_reducible rfl
      simp only[eA,eB,eC,Act.put,eD,eE,eF]
     refine bU ?_
     refine dw (T:=[9,12]) (i:=12) (by kernel_rfl) rfl (fun w1 hl K hK=>?_)
     obtain⟨e1,e2,e3,e4,e5⟩:=HP.out w1 hl
     have x0:=e1.cell 0
     have f0:=e1.free 0
     go_simp
     refine hK.out _ _ (fun h=>absurd h (by decide)) ?_
     clear hK K x0 f0 e1 HP hl
     refine kK (by kernel_rfl) (fun w1 hl=>?_) _
     have e6:=e2.kept hl
     have e7:=e3.kept hl
     have e8:=e4.trans e5 (dH.below hl)
     have z0:=e7.cell 0
     have z1:=e7.cell 1
     have f0:=e7.free 0
     have f1:=e7.free 1
     clear e2 e3 e4 hl
     go_wp2
     have hon:dY w.heap.size w1 ((w1.setCell ⟨w.heap.size,0,none⟩ (.int .i64 0)).setCell ⟨w.heap.size,1,none⟩ (.int .i64 0)):=(jS _).trans _ _ _ (dY.set _ 0 _) (dY.set _ 1 _)
     have hln:(Rs++[(nm,V)]).length=Rs.length+1:=by simp
     have hRd:=e6.only hon hb (fun e=>by
      obtain⟨_,cc,hbx⟩:=e6.own.block _ e
      exact absurd (hbx.lM e7) (by decide)) (fun i hi=>by
      by_cases h:i<Rs.length
      ·rw[List.getElem_append_left h];exact(H.out.lies i h).on.mono fun b hb=>by omega
      ·have:i=Rs.length:=by rw[hln] at hi;omega
       subst this
       simp only[List.getElem_append_right (Nat.le_refl _),Nat.sub_self,List.getElem_cons_zero]
       exact Z8.out.mono fun b hb=>by omega)
     exact cZ Tryz.results63 rfl (cs:=#[.int .i64 0,.int .i64 0]) ((e7.set 0 _).set 1 _) Tryz.underlying66 rfl eu rfl (show XJ r qB a cap Rs m w (.inr (nm,x)) _ _ from⟨a',cap',V,rfl,Lu.out,hRd,e8.only hon (Nat.le_refl _),e5⟩)
   ·have htx:=fun u (hu:ak u (.slice (some ⟨g.1,g.2,none⟩) n c) 1 bK s) (hl:g.1<u.heap.size)=>Ll N hN (g.1,g.2+(nm.length+1)) (n - (nm.length+1)) (c - (nm.length+1)) (s.drop (nm.length+1)) u (by
     have:=ak.sub (f:=fun x:UInt8=>Value.int .u8 x.toNat) hu (nm.length+1) (n - (nm.length+1)) (by omega)
     rw[List.take_of_length_le (by rw[List.length_drop];omega)] at this
     unfold CB at this
     rwa[if_neg hcc] at this) hl (zi.out.of fun b hb=>List.mem_of_mem_drop hb) P hpp
    have HT:=ah htx
    clear hhd htx h0 hs0 hs h hp hns hnl hc63 rD yS hpp hans hq
    cases P with
    | inl p =>
     obtain⟨pk,pp⟩:=p
     have Jw:=ahn _ rfl
     have ek:((pk:Int) != 0)=true:=by rw[bne_iff_ne];have:pk≠0:=Jw;omega
     obtain rfl:=Option.some.inj lq.out
     have Lr:pp+(nm.length+1)≤4611686018427387904:=HQ.out _ rfl
     have CO:pp≤4611686018427387904:=by omega
     have HPL:=ah Lr
     clear Jw Lr
     go_enter Tryz.func63,Tryz.ntmps63
     go_wp2_with (first | (go_at_call 99;go_must (refine HH.out.mono ?_;rintro e w1 ⟨rfl,hb1⟩;have h1:=H0.out.kept hb1;have hx1:=hx0.kept hb1;have z0:=hx1.cell 0;have z1:=hx1.cell 1;have f0:=hx1.free 0;have f1:=hx1.free 1;have hz1:=hx1.lt;unfold dZ)) | (go_at_call 100;go_must (refine(HT.out _ ((Z4.out.kept hb1).kept (aj _ _)) (by have:=hb1.size;simp;omega)).mono ?_;rintro e w3 ⟨hb3,rfl⟩;have hx3:=(hx1.alloc (.cells #[.int .i64 0,.int .i64 0] 66)).kept hb3;have hy3:=(Box.new w1 #[.int .i64 0,.int .i64 0] 66).kept hb3;have l1:=hy3.lt;have l0:=hx3.lt;have y0:=hx3.cell 0;have y1:=hx3.cell 1;have g0:=hx3.free 0;have g1:=hx3.free 1;have q0:=hy3.cell 0;have q1:=hy3.cell 1;have r0:=hy3.free 0;have r1:=hy3.free 1;unfold dZ)) | (with_reducible refine Stop.go (p:=wpList _ _ _ ({ dst:=some 37,op:=_,type:=_,pos:=_,after:=_,guard:=_ }::_) _ _) ?_))
     refine Stop.gen fun W hW=>?_
     have hzw:=hx1.lt
     have hBW:Below w.heap.size w W:=by
      have hB1:=hB0.trans (hb1.mono hB0.size)
      have hB2:=hB1.trans ((aj w1 (.cells #[.int .i64 0,.int .i64 0] 66)).mono hB1.size)
      have hB3:=hB2.trans (hb3.mono hB2.size)
      have hB4:=((hB3.setCell (p:=⟨w1.heap.size,0,none⟩) (Nat.le_of_lt hzw) (.int .i64 (pk:Nat))).setCell (p:=⟨w1.heap.size,1,none⟩) (Nat.le_of_lt hzw) (.int .i64 (pp:Nat))).setCell (p:=⟨w1.heap.size,1,none⟩) (Nat.le_of_lt hzw) (.int .i64 ((pp:Int)+((nm.length:Int)+1)))
      rw[hW]
      exact hB4.trans ((aj _ _).mono hB4.size)
     have hX:Box W w.heap.size #[.int .i64 0,.int .i64 0] 66:=by
      rw[hW]
      exact(((hx3.other ⟨w1.heap.size,0,none⟩ (.int .i64 (pk:Nat)) (by show w.heap.size≠w1.heap.size;omega)).other ⟨w1.heap.size,1,none⟩ (.int .i64 (pp:Nat)) (by show w.heap.size≠w1.heap.size;omega)).other ⟨w1.heap.size,1,none⟩ (.int .i64 ((pp:Int)+((nm.length:Int)+1))) (by show w.heap.size≠w1.heap.size;omega)).alloc _
     have hY:Box W w1.heap.size #[.int .i64 pk,.int .i64 ((pp:Int)+((nm.length:Int)+1))] 66:=by
      rw[hW]
      exact(((hy3.set 0 (.int .i64 (pk:Nat))).set 1 (.int .i64 (pp:Nat))).set 1 (.int .i64 ((pp:Int)+((nm.length:Int)+1)))).alloc _
     clear hW y0 y1 g0 g1 q0 q1 r0 r1 l0 l1 hx3 hy3 hb3 hx1 z0 z1 f0 f1 hz1
     have c0:=hX.cell 0
     have c1:=hX.cell 1
     have d0:=hX.free 0
     have d1:=hX.free 1
     have c2:=hY.cell 0
     have c3:=hY.cell 1
     go_wp2
     have lY:=(hBW.setCell (p:=⟨w.heap.size,0,none⟩) (by simp) (.int .i64 (pk:Nat))).setCell (p:=⟨w.heap.size,1,none⟩) (by simp) (.int .i64 ((pp:Int)+((nm.length:Int)+1)))
     exact cZ Tryz.results63 rfl (cs:=#[.int .i64 pk,.int .i64 ((pp:Int)+((nm.length:Int)+1))]) ((hX.set 0 _).set 1 _) Tryz.underlying66 rfl eu rfl ⟨by unfold dZ;congr 5,H.out.kept lY,dH.below lY⟩
    | inr x =>
     obtain rfl:=Option.some.inj lq.out
     go_enter Tryz.func63,Tryz.ntmps63
     go_wp2_with (first | (go_at_call 99;go_must (refine HH.out.mono ?_;rintro e w1 ⟨rfl,hb1⟩;have h1:=H0.out.kept hb1;have hx1:=hx0.kept hb1;have z0:=hx1.cell 0;have z1:=hx1.cell 1;have f0:=hx1.free 0;have f1:=hx1.free 1;have hz1:=hx1.lt;unfold dZ)) | (go_at_call 100;go_must (refine(HT.out _ ((Z4.out.kept hb1).kept (aj _ _)) (by have:=hb1.size;simp;omega)).mono ?_;intro e w3 htb;obtain⟨k5,s5,a5,cp5,bY,bZ,hi5,rfl,hV,hl3,qy,hb3⟩:=htb.open;have hx3:=(hx1.alloc (.cells #[.int .i64 0,.int .i64 0] 66)).kept hb3;have hy3:=(Box.new w1 #[.int .i64 0,.int .i64 0] 66).kept hb3;have l1:=hy3.lt;have l0:=hx3.lt;have y0:=hx3.cell 0;have y1:=hx3.cell 1;have g0:=hx3.free 0;have g1:=hx3.free 1;have q0:=hy3.cell 0;have q1:=hy3.cell 1;have r0:=hy3.free 0;have r1:=hy3.free 1;have HV:=ah hV;clear hV htb)) | (with_reducible refine Stop.go (p:=wpList _ _ _ ({ dst:=some 41,op:=_,type:=_,pos:=_,after:=_,guard:=_ }::_) _ _) ?_))
     refine Stop.gen fun W hW=>?_
     have hzw:=hx1.lt
     obtain⟨V,Dw⟩:∃ V,Vt.mk k5 s5 a5 cp5 bY bZ hi5=V:=⟨_,rfl⟩
     have hB1:=hB0.trans (hb1.mono hB0.size)
     have hB2:=hB1.trans ((aj w1 (.cells #[.int .i64 0,.int .i64 0] 66)).mono hB1.size)
     have hB3:=hB2.trans (hb3.mono hB2.size)
     have hB4:=(hB3.setCell (p:=⟨w1.heap.size,0,none⟩) (Nat.le_of_lt hzw) (.int .i64 0)).setCell (p:=⟨w1.heap.size,1,none⟩) (Nat.le_of_lt hzw) (.int .i64 0)
     have hBW:Below w.heap.size w W:=by
      rw[hW]
      exact hB4.trans ((aj _ _).mono hB4.size)
     have hX:Box W w.heap.size #[.int .i64 0,.int .i64 0] 66:=by
      rw[hW]
      exact((hx3.other ⟨w1.heap.size,0,none⟩ (.int .i64 0) (by show w.heap.size≠w1.heap.size;omega)).other ⟨w1.heap.size,1,none⟩ (.int .i64 0) (by show w.heap.size≠w1.heap.size;omega)).alloc _
     have hY:Box W w3.heap.size (aC k5 s5 a5 bY.length cp5 bZ hi5).toArray 115:=by
      rw[hW]
      exact Box.new' (by simp) _ _
     have Z5:Lies W V:=by
      rw[hW,←Dw]
      refine(hl3.eH qy fun b hb=>?_).kept (aj _ _)
      rw[World.size_alloc] at hb
      exact(heap_setCell_other _ ⟨w1.heap.size,1,none⟩ b _ (by show b≠w1.heap.size;omega)).trans (heap_setCell_other _ ⟨w1.heap.size,0,none⟩ b _ (by show b≠w1.heap.size;omega))
     have Lm:On (fun b=>w.heap.size<b) V:=by
      rw[←Dw]
      exact qy.mono fun b hb=>by rw[World.size_alloc] at hb;omega
     have Z7:Box W w3.heap.size V.cells.toArray 115:=by rw[←Dw];exact hY
     have hcell:(aC k5 s5 a5 bY.length cp5 bZ hi5).toArray=V.cells.toArray:=by rw[←Dw];rfl
     have Sr:=HV.out
     rw[Dw] at Sr
     have hS:=H.out.kept hBW
     have hlt:=hS.lt
     obtain⟨W2,hput,hm2,ho2,hsz2,Gm⟩:=hS.map.rX mQ Tryz.underlying101 nm (.bool true)
     obtain⟨hnl,yS,rD⟩:=Lp.out
     have hw3:=l0
     have Sv:Rs.length≠64:=by simpa using rD
     clear hW y0 y1 g0 g1 q0 q1 r0 r1 l0 l1 hx3 hy3 hl3 qy hB4 hB3 hB2 hB1 hb3 z0 z1 f0 f1 hz1 hx1 HV hY Dw
     have c0:=hS.box.cell 0
     have c1:=hS.box.cell 1
     have hol:∀ g,(Value.slice a Rs.length cap).ownBlock=some g→g<w.heap.size:=fun g hg=>(H.out.lg g hg).2
     have hb2:Box W2 r #[.slice a Rs.length cap,.map (some m)] 103:=(ho2 r hlt.2.2).trans hS.box
     have hown2:Own W2 qB 117 9 jc (.slice a Rs.length cap) Rs:=hS.own.fC fun g hg=>ho2 g (by have:=(hS.lg g hg).1;omega)
     have wO:aJ W2 m (fun s:List UInt8=>sv s) (vP (Rs++[(nm,V)])):=by
      rw[kT] at hm2
      ·rw[vP,List.map_append];exact hm2
      ·have:=Ar nm Rs
       rw[yS] at this
       cases hlk:look nm (vP Rs) with
       | none=>rfl
       | some z =>
        obtain⟨p,hp,hpe⟩:=Ei hlk
        rw[vP,List.mem_map] at hp
        obtain⟨q,_,rfl⟩:=hp
        rw[hlk] at this
        cases hpe
        cases this
     have hl2:∀ i (h:i<Rs.length),Lies W2 Rs[i].2:=fun i h=>(hS.lies i h).eH (hS.on i h) fun b hb=>ho2 b (by have:=hb.1;omega)
     have Sm:Lies W2 V:=Z5.eH Lm fun b hb=>ho2 b (by omega)
     have hX2:Box W2 w.heap.size #[.int .i64 0,.int .i64 0] 66:=(ho2 _ (by omega)).trans hX
     have hsw:=hBW.size
     have hwW:=hX.lt
     have Sz:Box W2 w3.heap.size (aC k5 s5 a5 bY.length cp5 bZ hi5).toArray 115:=(ho2 _ (by have:=hlt.2.1;omega)).trans (hcell▸Z7)
     have hk2:dH r m (.slice a Rs.length cap) w W2:=by
      have h1:=Gm m (Nat.le_refl _)
      exact⟨h1.os.trans hBW.os,h1.tape.trans hBW.tape,h1.output.trans hBW.output,Nat.le_trans hBW.size h1.size,fun b hb _ h2 _=>(ho2 b h2).trans (hBW.block b hb)⟩
     have HF:Hid (∀ u,Later W2.drew u→Box u r #[.slice a Rs.length cap,.map (some m)] 103∧Own u qB 117 9 jc (.slice a Rs.length cap) Rs∧aJ u m (fun s:List UInt8=>sv s) (vP (Rs++[(nm,V)]))∧(∀ i (h:i<Rs.length),Lies u Rs[i].2)∧Lies u V∧Box u w.heap.size #[.int .i64 0,.int .i64 0] 66∧Box u w3.heap.size (aC k5 s5 a5 bY.length cp5 bZ hi5).toArray 115∧dH r m (.slice a Rs.length cap) w u):=ah fun u hu=>by
      have hB:Below W2.heap.size W2 u:=((Below.refl _ W2).drew).trans hu
      exact⟨hb2.kept hB,hown2.kept hB,wO.kept hB,fun i h=>(hl2 i h).kept hB,Sm.kept hB,hX2.kept hB,Sz.kept hB,hk2.tr (dH.below hB)⟩
     have IL:=ah hS.on
     have HHL:=ah hlt
     have Z8:=ah Lm
     have HOL:=ah hol
     have ajU:Rs.length<64:=by have:=hRs;omega
     have Ls:jc (nm,V)=sv nm::aC k5 s5 a5 bY.length cp5 bZ hi5:=by
      have:=congrArg Array.toList hcell
      exact congrArg (sv nm::·) this.symm
     have HEV:=ah Ls
     have Lu:=ah Sr
     have jG:=ah hBW
     clear hol hb2 hown2 wO hl2 Sm hX2 hk2 hS hm2 Gm hlt Lm Z5 hX Z7 hcell hnl yS rD Sv Ls Sr
     go_wp2_with fail
     clear hput ho2 hsz2 c0 c1 Sz
     refine jq (R:=Later) [9,12] (by kernel_rfl) ?_
     refine DZ (T:=[9,12]) (i:=6) rfl (by kernel_rfl) (by kernel_rfl) (by kernel_rfl) (by kernel_rfl) (fun _ _ _ h=>h) (by rfl) (fun w1 hl=>lW 115 _ rfl _ rfl ((HF.out w1 hl).2.2.2.2.2.2.1) Tryz.underlying115 rfl ((by kernel_rfl))) ?_
     simp only[eA,eB,eC,Act.put,eD,eE,eF]
     refine pl [0,1,2,3] ?_
     repeat
      refine oM ?_ rfl (fun w1=>?_) ?_
      rotate_left
      ·go_simp;try with_reducible rfl
      simp only[eA,eB,eC,Act.put,eD,eE,eF]
     refine bU ?_
     refine AY 4 ?_ rfl (fun w1 hl=>?_) ?_
     rotate_left
     ·obtain⟨hB0,_⟩:=HF.out w1 hl;have x0:=hB0.cell 0;have x1:=hB0.cell 1;go_simp;try with_reducible rfl
     simp only[eA,eB,eC,Act.put,eD,eE,eF]
     refine pl [5,7] ?_
     repeat
      refine oM ?_ rfl (fun w1=>?_) ?_
      rotate_left
      ·go_simp;try with_reducible rfl
      simp only[eA,eB,eC,Act.put,eD,eE,eF]
     refine bU ?_
     refine dw (T:=[9,12]) (i:=8) (by kernel_rfl) rfl (fun w1 hl K hK=>?_)
     go_simp
     refine hK.out _ _ (fun _=>aj _ _) ?_
     have hsl:=qL Aq w1 117 [(nm,V)] (by simp[maxLen])
     rw[List.flatMap_cons,List.flatMap_nil,List.append_nil,HEV.out] at hsl
     have hlA:Later _ (w1.alloc (.cells (sv nm::aC k5 s5 a5 bY.length cp5 bZ hi5).toArray 117)):=Later.trans _ _ _ hl (aj _ _)
     clear hK K hl
     refine dw (T:=[9,12]) (i:=9) (by kernel_rfl) rfl (fun w1 hl K hK=>?_)
     obtain⟨e1,e2,e3,e4,e5,e6,_,e8⟩:=HF.out w1 (Later.trans _ _ _ hlA hl)
     have hnw:=FB (hsl.kept hl)
     have hsw:qB≤w1.heap.size:=by have:=e8.size;omega
     clear hsl hl hlA
     refine gu (by rfl) ?_
     refine pU _ _ 64 rfl OM Aq rfl e2 _ 1 ((nm,V):List UInt8×Vt) rfl hnw (by simp[maxLen];omega) (by omega) (by omega) ?_
     intro a' cap' w' hown' hg hfr
     refine hK.out _ _ (fun h=>absurd h (by decide)) ?_
     clear hK K hnw
     simp only[List.getElem_toArray,List.getElem_cons_zero,List.getElem_cons_succ,Act.put,List.setIfInBounds_toArray,List.set_cons_zero,List.set_cons_succ]
     have HP:=ah fun u (hu:Later w' u)=>VO e1 e2 e3 e4 IL.out e5 Z8.out HOL.out e6 e8 HHL.out hb hown' hg hfr hu
     clear e1 e2 e3 e4 e5 e6 e8 hown' hg hfr hsw HF IL
     refine pl [10,11] ?_
     repeat
      refine oM ?_ rfl (fun w1=>?_) ?_
      rotate_left
      ·go_simp;try with_reducible rfl
      simp only[eA,eB,eC,Act.put,eD,eE,eF]
     refine bU ?_
     refine dw (T:=[9,12]) (i:=12) (by kernel_rfl) rfl (fun w1 hl K hK=>?_)
     obtain⟨e1,e2,e3,e4,e5⟩:=HP.out w1 hl
     have x0:=e1.cell 0
     have f0:=e1.free 0
     go_simp
     refine hK.out _ _ (fun h=>absurd h (by decide)) ?_
     clear hK K x0 f0 e1 HP hl
     refine kK (by kernel_rfl) (fun w1 hl=>?_) _
     have e6:=e2.kept hl
     have e7:=e3.kept hl
     have e8:=e4.trans e5 (dH.below hl)
     have z0:=e7.cell 0
     have z1:=e7.cell 1
     have f0:=e7.free 0
     have f1:=e7.free 1
     clear e2 e3 e4 hl
     go_wp2
     have hon:dY w.heap.size w1 ((w1.setCell ⟨w.heap.size,0,none⟩ (.int .i64 0)).setCell ⟨w.heap.size,1,none⟩ (.int .i64 0)):=(jS _).trans _ _ _ (dY.set _ 0 _) (dY.set _ 1 _)
     have hln:(Rs++[(nm,V)]).length=Rs.length+1:=by simp
     have hRd:=e6.only hon hb (fun e=>by
      obtain⟨_,cc,hbx⟩:=e6.own.block _ e
      exact absurd (hbx.lM e7) (by decide)) (fun i hi=>by
      by_cases h:i<Rs.length
      ·rw[List.getElem_append_left h];exact(H.out.lies i h).on.mono fun b hb=>by omega
      ·have:i=Rs.length:=by rw[hln] at hi;omega
       subst this
       simp only[List.getElem_append_right (Nat.le_refl _),Nat.sub_self,List.getElem_cons_zero]
       exact Z8.out.mono fun b hb=>by omega)
     exact cZ Tryz.results63 rfl (cs:=#[.int .i64 0,.int .i64 0]) ((e7.set 0 _).set 1 _) Tryz.underlying66 rfl eu rfl (show XJ r qB a cap Rs m w (.inr (nm,x)) _ _ from⟨a',cap',V,rfl,Lu.out,hRd,e8.only hon (Nat.le_refl _),e5⟩)
end
end Go.Proofs.YtengfapcaaacaaaGreatDoor
