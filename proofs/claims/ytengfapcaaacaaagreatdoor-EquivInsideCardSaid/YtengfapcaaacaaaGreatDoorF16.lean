/- The texts of E16, in few letters (mini.py). -/
import Derived.Test.YtengfapcaaacaaaGreatDoorF15
set_option linter.unusedVariables false
set_option linter.unusedSimpArgs false
set_option maxRecDepth 20000
set_option maxHeartbeats 1600000
namespace Go.Proofs.YtengfapcaaacaaaGreatDoor
section
open Go.RowKit
theorem ag4(r base:Nat)(a:Option Addr)(cap:Nat)(Rs:List (List UInt8×Vt))(m:Nat)(g:Nat×Nat)(n c:Nat)(s:List UInt8)(w:World)(h:qR w r base a cap Rs m)(hs:au w (.slice (some ⟨g.1,g.2,none⟩) n c) 1 gI s)(hn:n≤4611686018427387904) :
  Calls Tryz.prog 99 #[.pointer (some ⟨r,0,none⟩),.slice (some ⟨g.1,g.2,none⟩) n c] w (afq w (rQ (Rs.map (·.1)) s)):=by
 have hB0:=aj w (.cells #[.int .i64 0,.int .i64 0] 66)
 have h0:=h.kept hB0
 have hx0:=Box.new w #[.int .i64 0,.int .i64 0] 66
 have hrun:=aap g.1 g.2 n c s _ (hs.kept hB0)
 have hC:=hs.cellsA
 obtain⟨hns,hnc,hc63,hCC⟩:=hC
 have HC:=ah hCC
 have Sv:=ah hns
 have hle:=vH true s
 have hconv:=fun u (hu:au u (.slice (some ⟨g.1,g.2,none⟩) (runFrom true s) c) 1 gI (s.take (runFrom true s)))=>ag2 (P:=Tryz.prog) (src:=35) (dst:=9) Tryz.underlying35 Tryz.underlying5 Tryz.underlying9 (by rw[List.length_take,Nat.min_eq_left hle]) hu
 have hlen:(Rs.map (·.1)).length=Rs.length:=by simp
 have hz:=OO
 unfold rQ
 rw[hlen]
 generalize hk:runFrom true s=k at *
 have HR:=ah hrun
 have H0:=ah h0
 have HS:=ah hs
 have HCV:=ah hconv
 have hkn:k≤n:=by omega
 clear hrun h0 hs hCC hconv hlen h hns hk
 by_cases h1:Rs.length=64
 ·rw[if_pos h1]
  have e1:((Rs.length:Int)==64)=true:=by rw[h1];rfl
  clear h1
  go_enter Tryz.func99,Tryz.ntmps99
  go_wp2_with (go_at_call 133;go_must (refine HR.out.mono ?_;rintro e w1 ⟨rfl,hb1⟩;have h1:=H0.out.kept hb1;have hx1:=hx0.kept hb1;have x0:=h1.box.cell 0;have x1:=h1.box.cell 1;have z0:=hx1.cell 0;have z1:=hx1.cell 1;have f0:=hx1.free 0;have f1:=hx1.free 1))
  exact jH Tryz.results99 rfl rfl ((hx1.set 0 (.int .i64 18)).set 1 (.int .i64 0)) Tryz.underlying66 rfl fJ rfl ⟨rfl,((hB0.trans (hb1.mono hB0.size)).setCell (p:=⟨w.heap.size,0,none⟩) (by simp) (.int .i64 18)).setCell (p:=⟨w.heap.size,1,none⟩) (by simp) (.int .i64 0)⟩
 rw[if_neg h1]
 have e1:((Rs.length:Int)==64)=false:=by rw[beq_eq_false_iff_ne];omega
 clear h1
 by_cases h2:k=0
 ·rw[if_pos h2]
  have e2:((k:Int)==0)=true:=by rw[h2];rfl
  clear h2
  go_enter Tryz.func99,Tryz.ntmps99
  go_wp2_with (go_at_call 133;go_must (refine HR.out.mono ?_;rintro e w1 ⟨rfl,hb1⟩;have h1:=H0.out.kept hb1;have hx1:=hx0.kept hb1;have x0:=h1.box.cell 0;have x1:=h1.box.cell 1;have z0:=hx1.cell 0;have z1:=hx1.cell 1;have f0:=hx1.free 0;have f1:=hx1.free 1))
  exact jH Tryz.results99 rfl rfl ((hx1.set 0 (.int .i64 9)).set 1 (.int .i64 0)) Tryz.underlying66 rfl fJ rfl ⟨rfl,((hB0.trans (hb1.mono hB0.size)).setCell (p:=⟨w.heap.size,0,none⟩) (by simp) (.int .i64 9)).setCell (p:=⟨w.heap.size,1,none⟩) (by simp) (.int .i64 0)⟩
 rw[if_neg h2]
 have e2:((k:Int)==0)=false:=by rw[beq_eq_false_iff_ne];omega
 clear h2
 by_cases h3:32<k
 ·rw[if_pos h3]
  have e3:decide ((32:Int)<(k:Int))=true:=by simp;omega
  have e3':(32:Int)<(k:Int):=by omega
  clear h3
  go_enter Tryz.func99,Tryz.ntmps99
  go_wp2_with (go_at_call 133;go_must (refine HR.out.mono ?_;rintro e w1 ⟨rfl,hb1⟩;have h1:=H0.out.kept hb1;have hx1:=hx0.kept hb1;have x0:=h1.box.cell 0;have x1:=h1.box.cell 1;have z0:=hx1.cell 0;have z1:=hx1.cell 1;have f0:=hx1.free 0;have f1:=hx1.free 1))
  exact jH Tryz.results99 rfl rfl ((hx1.set 0 (.int .i64 9)).set 1 (.int .i64 32)) Tryz.underlying66 rfl fJ rfl ⟨rfl,((hB0.trans (hb1.mono hB0.size)).setCell (p:=⟨w.heap.size,0,none⟩) (by simp) (.int .i64 9)).setCell (p:=⟨w.heap.size,1,none⟩) (by simp) (.int .i64 32)⟩
 rw[if_neg h3]
 have e3:decide ((32:Int)<(k:Int))=false:=by simp;omega
 clear h3
 by_cases h4:Bc s k 58=false
 ·rw[if_pos h4]
  by_cases h5:k=n
  ·have e4:((k:Int)==(n:Int))=true:=by rw[h5];simp
   clear h4 h5
   go_enter Tryz.func99,Tryz.ntmps99
   go_wp2_with (go_at_call 133;go_must (refine HR.out.mono ?_;rintro e w1 ⟨rfl,hb1⟩;have h1:=H0.out.kept hb1;have hx1:=hx0.kept hb1;have x0:=h1.box.cell 0;have x1:=h1.box.cell 1;have z0:=hx1.cell 0;have z1:=hx1.cell 1;have f0:=hx1.free 0;have f1:=hx1.free 1))
   exact jH Tryz.results99 rfl rfl ((hx1.set 0 (.int .i64 10)).set 1 (.int .i64 k)) Tryz.underlying66 rfl fJ rfl ⟨rfl,((hB0.trans (hb1.mono hB0.size)).setCell (p:=⟨w.heap.size,0,none⟩) (by simp) (.int .i64 10)).setCell (p:=⟨w.heap.size,1,none⟩) (by simp) (.int .i64 k)⟩
  ·have e4:((k:Int)==(n:Int))=false:=by rw[beq_eq_false_iff_ne];omega
   have hks:k<s.length:=by rw[←Sv.out];omega
   have hy:=HC.out k hks
   have hne:((s[k].toNat:Int) != 58)=true:=by
    unfold Bc at h4
    rw[decide_eq_true hks,Bool.true_and,List.getD_eq_getElem?_getD,List.getElem?_eq_getElem hks,Option.getD_some,beq_eq_false_iff_ne] at h4
    rw[bne_iff_ne]
    intro e
    refine h4 ?_
    apply UInt8.toNat_inj.1
    have:s[k].toNat=58:=by omega
    rw[this];rfl
   generalize s[k]=x at *
   have HY:=ah hy
   have hki:(k:Int)<(n:Int):=by omega
   have hk0:(0:Int)≤(k:Int):=by omega
   clear h4 h5 hy hks
   go_enter Tryz.func99,Tryz.ntmps99
   go_wp2_with (go_at_call 133;go_must (refine HR.out.mono ?_;rintro e w1 ⟨rfl,hb1⟩;have h1:=H0.out.kept hb1;have hx1:=hx0.kept hb1;have x0:=h1.box.cell 0;have x1:=h1.box.cell 1;have z0:=hx1.cell 0;have z1:=hx1.cell 1;have f0:=hx1.free 0;have f1:=hx1.free 1;have y0:=HY.out w1 (hB0.trans (hb1.mono hB0.size))))
   exact jH Tryz.results99 rfl rfl ((hx1.set 0 (.int .i64 10)).set 1 (.int .i64 k)) Tryz.underlying66 rfl fJ rfl ⟨rfl,((hB0.trans (hb1.mono hB0.size)).setCell (p:=⟨w.heap.size,0,none⟩) (by simp) (.int .i64 10)).setCell (p:=⟨w.heap.size,1,none⟩) (by simp) (.int .i64 k)⟩
 rw[if_neg h4]
 have hks:k<s.length:=by
  unfold Bc at h4
  rw[Bool.not_eq_false,Bool.and_eq_true,decide_eq_true_eq] at h4
  exact h4.1
 have e4:((k:Int)==(n:Int))=false:=by rw[beq_eq_false_iff_ne];have:=Sv.out;omega
 have hy:=HC.out k hks
 have hne:((s[k].toNat:Int) != 58)=false:=by
  unfold Bc at h4
  rw[Bool.not_eq_false,Bool.and_eq_true,List.getD_eq_getElem?_getD,List.getElem?_eq_getElem hks,Option.getD_some,beq_iff_eq] at h4
  rw[h4.2];rfl
 generalize s[k]=x at *
 have HY:=ah hy
 have hki:(k:Int)<(n:Int):=by have:=Sv.out;omega
 have hk0:(0:Int)≤(k:Int):=by omega
 have hkc:(k:Int)≤(c:Int):=by have:=Sv.out;omega
 have asD:IntKind.i64.wrap (k:Int)=(k:Int):=by rw[IntWalk.i64_in _ (by omega)]
 clear h4 hy hks
 cases h5:(Rs.map (·.1)).contains (s.take k) with
 | true =>
  rw[if_pos rfl]
  have HH:=ah h5
  clear h5
  go_enter Tryz.func99,Tryz.ntmps99
  go_wp2_with (go_at_call 133;go_must (refine HR.out.mono ?_;rintro e w1 ⟨rfl,hb1⟩;have h1:=H0.out.kept hb1;have hx1:=hx0.kept hb1;have x0:=h1.box.cell 0;have x1:=h1.box.cell 1;have z0:=hx1.cell 0;have z1:=hx1.cell 1;have f0:=hx1.free 0;have f1:=hx1.free 1;have y0:=HY.out w1 (hB0.trans (hb1.mono hB0.size));have hcv:=HCV.out w1 ((HS.out.kept (hB0.trans (hb1.mono hB0.size))).afp k (by omega));have hlk:=kS h1.map nG Tryz.underlying101 (hz w1) (s.take k);rw[zZ,HH.out] at hlk))
  exact jH Tryz.results99 rfl rfl ((hx1.set 0 (.int .i64 8)).set 1 (.int .i64 0)) Tryz.underlying66 rfl fJ rfl ⟨rfl,((hB0.trans (hb1.mono hB0.size)).setCell (p:=⟨w.heap.size,0,none⟩) (by simp) (.int .i64 8)).setCell (p:=⟨w.heap.size,1,none⟩) (by simp) (.int .i64 0)⟩
 | false =>
  rw[if_neg (by simp)]
  have HH:=ah h5
  clear h5
  go_enter Tryz.func99,Tryz.ntmps99
  go_wp2_with (go_at_call 133;go_must (refine HR.out.mono ?_;rintro e w1 ⟨rfl,hb1⟩;have h1:=H0.out.kept hb1;have hx1:=hx0.kept hb1;have x0:=h1.box.cell 0;have x1:=h1.box.cell 1;have z0:=hx1.cell 0;have z1:=hx1.cell 1;have f0:=hx1.free 0;have f1:=hx1.free 1;have y0:=HY.out w1 (hB0.trans (hb1.mono hB0.size));have hcv:=HCV.out w1 ((HS.out.kept (hB0.trans (hb1.mono hB0.size))).afp k (by omega));have hlk:=kS h1.map nG Tryz.underlying101 (hz w1) (s.take k);rw[zZ,HH.out] at hlk))
  exact jH Tryz.results99 rfl rfl ((hx1.set 0 (.int .i64 0)).set 1 (.int .i64 0)) Tryz.underlying66 rfl fJ rfl ⟨rfl,((hB0.trans (hb1.mono hB0.size)).setCell (p:=⟨w.heap.size,0,none⟩) (by simp) (.int .i64 0)).setCell (p:=⟨w.heap.size,1,none⟩) (by simp) (.int .i64 0)⟩
end
section
open Go.RowKit
def Stop(p:Prop):Prop:=p
theorem Stop.go{p:Prop}(h:Stop p):p:=h
theorem Stop.gen{P:Program}{ops:Array Oper}{l:List Oper}{Q:Exit→Act→World→Prop}{a:Act}{w:World}(h:∀ W,W=w→wpList P ops Q l a W):Stop (wpList P ops Q l a w):=h w rfl
def Yr(r base:Nat)(a:Option Addr)(cap:Nat)(Rs:List (List UInt8×Vt))(m:Nat)(w:World)(ans:Sum (Nat×Nat) (List UInt8×Tr))(e:Ending)(w':World):Prop :=
 match ans with
 | .inl q=>e=.returned (iw q.1 q.2)∧qR w' r base a cap Rs m∧dQ r m (.slice a Rs.length cap) w w'
 | .inr q=>∃ a' cap' V,e=.returned (iw 0 0)∧V.tr=q.2∧qR w' r base a' cap' (Rs++[(q.1,V)]) m∧dQ r m (.slice a Rs.length cap) w w'∧fC w (.slice a Rs.length cap) (.slice a' (Rs.length+1) cap')
theorem D6{κ:Type}[DecidableEq κ]{k:κ}{z:Value}:∀ {kvs:List (κ×Value)},look k kvs=some z→∃ p∈kvs,p.2=z
 | [],h=>by rw[look] at h;cases h
 | p::r,h=>by
  rw[look] at h
  by_cases hk:k=p.1
  ·rw[if_pos hk] at h;exact⟨p,by simp,Option.some.inj h⟩
  ·rw[if_neg hk] at h
   obtain⟨q,h1,h2⟩:=D6 h
   exact⟨q,List.mem_cons_of_mem _ h1,h2⟩
theorem GY.open{w w':World}{x:Tr}{e:Ending}(h:GY w (.inr x) e w'):∃ k s a cap kids lo hi,e=.returned (.tuple #[.agg (aI k s a (List.length kids) cap lo hi).toArray,.agg #[.int .i64 0,.int .i64 0]])∧(Vt.mk k s a cap kids lo hi).tr=x∧Lies w' (.mk k s a cap kids lo hi)∧On (fun b=>w.heap.size≤b) (.mk k s a cap kids lo hi)∧Below w.heap.size w w':=by
 obtain⟨hb,⟨k,s,a,cap,kids,lo,hi⟩,h1,h2,h3,h4⟩:=h
 exact⟨k,s,a,cap,kids,lo,hi,h1,h2,h3,h4,hb⟩
theorem ag5(N:Nat)(hN:N≤1099511627776)(r base:Nat)(a:Option Addr)(cap:Nat)(Rs:List (List UInt8×Vt))(m:Nat)(g:Nat×Nat)(n c:Nat)(s:List UInt8)(w:World)(h:qR w r base a cap Rs m)(hs:au w (.slice (some ⟨g.1,g.2,none⟩) n c) 1 gI s)(hn:n≤65536)(hRs:Rs.length≤64)
  (hg:g.1<w.heap.size) (hb:base≤w.heap.size) (Sl:FD s) (ans:Sum (Nat×Nat) (List UInt8×Tr)) (hans:zn N (Rs.map (·.1)) s=some ans) (hq:∀ q,ans=.inl q→q.2≤4611686018427387904) :
  Calls Tryz.prog 63 #[.pointer (some ⟨r,0,none⟩),.slice (some ⟨g.1,g.2,none⟩) n c] w (Yr r base a cap Rs m w ans):=by
 have qC:=ah Sl
 clear Sl
 have hB0:=aj w (.cells #[.int .i64 0,.int .i64 0] 66)
 have h0:=h.kept hB0
 have hx0:=Box.new w #[.int .i64 0,.int .i64 0] 66
 have hs0:=hs.kept hB0
 have hhd:=ag4 r base a cap Rs m g n c s _ h0 hs0 (by omega)
 have hns:=hs.cellsA.1
 have hnc:=hs.cellsA.2.1
 have hc63:=hs.cellsA.2.2.1
 have hW0:(w.alloc (.cells #[.int .i64 0,.int .i64 0] 66)).heap.size=w.heap.size+1:=by simp
 rw[xK] at hans
 have H0:=ah h0
 have HS0:=ah hs0
 have Sv:=ah hns
 unfold afq at hhd
 cases hp:rQ (Rs.map (·.1)) s with
 | inl q =>
  rw[hp] at hans hhd
  obtain rfl:=Option.some.inj hans
  have hq0:=Sm hp
  have ek:((q.1:Int) != 0)=true:=by rw[bne_iff_ne];omega
  have HH:=ah hhd
  obtain⟨qk,qp⟩:=q
  have H:=ah h
  clear hans hhd hp h0 hs0 hs h hq0 hns hq
  dsimp only at HH ek
  go_enter Tryz.func63,Tryz.ntmps63
  go_wp2_with (first | (go_at_call 99;go_must (refine HH.out.mono ?_;rintro e w1 ⟨rfl,hb1⟩;have h1:=H0.out.kept hb1;have hx1:=hx0.kept hb1;have z0:=hx1.cell 0;have z1:=hx1.cell 1;have f0:=hx1.free 0;have f1:=hx1.free 1;have hz1:=hx1.lt;unfold iw)))
  have hB1:=hB0.trans (hb1.mono hB0.size)
  have hB2:=(hB1.setCell (p:=⟨w.heap.size,0,none⟩) (by simp) (.int .i64 qk)).setCell (p:=⟨w.heap.size,1,none⟩) (by simp) (.int .i64 qp)
  have hB3:=hB2.trans ((aj _ (.cells #[.int .i64 qk,.int .i64 qp] 66)).mono hB2.size)
  exact eH Tryz.results63 rfl (cs:=#[.int .i64 qk,.int .i64 qp]) (((hx1.set 0 _).set 1 _).alloc _) Tryz.underlying66 rfl fJ rfl ⟨rfl,H.out.kept hB3,dQ.below hB3⟩
 | inr nm =>
  rw[hp] at hans hhd
  dsimp only at hans hhd
  obtain⟨hnl,Aa,qU,hn32⟩:=FY hp
  cases hpp:sW N (s.drop (nm.length+1)) with
  | none=>rw[hpp] at hans;cases hans
  | some P =>
   rw[hpp] at hans
   have asE:nm.length+1≤n:=by omega
   have hhi:(nm.length:Int)+1≤(n:Int):=by omega
   have hhi2:(n:Int)≤(c:Int):=by omega
   have lT:=ah hans
   have HQ:=ah hq
   have KX:=ah (show _∧_∧_ from⟨hnl,Aa,qU⟩)
   have HH:=ah hhd
   have H:=ah h
   have aie:∀ p,P=.inl p→p.1≠0:=fun p e=>OQ (by rw[←e];exact hpp)
   by_cases hcc:c=nm.length+1
   ·obtain rfl:n=nm.length+1:=by omega
    have hdr:s.drop (nm.length+1)=[]:=List.drop_eq_nil_of_le (by omega)
    rw[hdr] at hpp
    have htx:=fun u (hl:g.1<u.heap.size)=>KU N hN g 0 0 [] u ⟨_,g.1,g.2,0,rfl,Nat.le_refl _,by simp[maxLen],.inl rfl,fun i hi=>by simp at hi⟩ hl (qC.out.of fun b hb=>by cases hb) P hpp
    have HT:=ah htx
    clear hhd htx h0 hs0 hs h hp hns hnl hc63 qU Aa hpp hans hq hdr
    subst hcc
    cases P with
    | inl p =>
     obtain⟨pk,pp⟩:=p
     have Jp:=aie _ rfl
     have ek:((pk:Int) != 0)=true:=by rw[bne_iff_ne];have:pk≠0:=Jp;omega
     obtain rfl:=Option.some.inj lT.out
     have KY:pp+(nm.length+1)≤4611686018427387904:=HQ.out _ rfl
     have BP:pp≤4611686018427387904:=by omega
     have HPL:=ah KY
     clear Jp KY
     go_enter Tryz.func63,Tryz.ntmps63
     go_wp2_with (first | (go_at_call 99;go_must (refine HH.out.mono ?_;rintro e w1 ⟨rfl,hb1⟩;have h1:=H0.out.kept hb1;have hx1:=hx0.kept hb1;have z0:=hx1.cell 0;have z1:=hx1.cell 1;have f0:=hx1.free 0;have f1:=hx1.free 1;have hz1:=hx1.lt;unfold iw)) | (go_at_call 100;go_must (refine(HT.out _ (by have:=hb1.size;simp;omega)).mono ?_;rintro e w3 ⟨hb3,rfl⟩;have hx3:=(hx1.alloc (.cells #[.int .i64 0,.int .i64 0] 66)).kept hb3;have hy3:=(Box.new w1 #[.int .i64 0,.int .i64 0] 66).kept hb3;have l1:=hy3.lt;have l0:=hx3.lt;have y0:=hx3.cell 0;have y1:=hx3.cell 1;have g0:=hx3.free 0;have g1:=hx3.free 1;have q0:=hy3.cell 0;have q1:=hy3.cell 1;have r0:=hy3.free 0;have r1:=hy3.free 1;unfold iw)) | (with_reducible refine Stop.go (p:=wpList _ _ _ ({ dst:=some 37,op:=_,type:=_,pos:=_,after:=_,guard:=_ }::_) _ _) ?_))
     refine Stop.gen fun W hW=>?_
     have hzw:=hx1.lt
     have hBW:Below w.heap.size w W:=by
      have hB1:=hB0.trans (hb1.mono hB0.size)
      have hB2:=hB1.trans ((aj w1 (.cells #[.int .i64 0,.int .i64 0] 66)).mono hB1.size)
      have hB3:=hB2.trans (hb3.mono hB2.size)
      have hB4:=((hB3.setCell (p:=⟨w1.heap.size,0,none⟩) (Nat.le_of_lt hzw) (.int .i64 (pk:Nat))).setCell (p:=⟨w1.heap.size,1,none⟩) (Nat.le_of_lt hzw) (.int .i64 (pp:Nat))).setCell (p:=⟨w1.heap.size,1,none⟩) (Nat.le_of_lt hzw) (.int .i64 ((pp:Int)+((nm.length:Int)+1)))
      rw[hW]
      exact hB4.trans ((aj _ _).mono hB4.size)
     have hX:Box W w.heap.size #[.int .i64 0,.int .i64 0] 66:=by
      rw[hW]
      exact(((hx3.other ⟨w1.heap.size,0,none⟩ (.int .i64 (pk:Nat)) (by show w.heap.size≠w1.heap.size;omega)).other ⟨w1.heap.size,1,none⟩ (.int .i64 (pp:Nat)) (by show w.heap.size≠w1.heap.size;omega)).other ⟨w1.heap.size,1,none⟩ (.int .i64 ((pp:Int)+((nm.length:Int)+1))) (by show w.heap.size≠w1.heap.size;omega)).alloc _
     have hY:Box W w1.heap.size #[.int .i64 pk,.int .i64 ((pp:Int)+((nm.length:Int)+1))] 66:=by
      rw[hW]
      exact(((hy3.set 0 (.int .i64 (pk:Nat))).set 1 (.int .i64 (pp:Nat))).set 1 (.int .i64 ((pp:Int)+((nm.length:Int)+1)))).alloc _
     clear hW y0 y1 g0 g1 q0 q1 r0 r1 l0 l1 hx3 hy3 hb3 hx1 z0 z1 f0 f1 hz1
     have c0:=hX.cell 0
     have c1:=hX.cell 1
     have d0:=hX.free 0
     have d1:=hX.free 1
     have c2:=hY.cell 0
     have c3:=hY.cell 1
     go_wp2
     have dw:=(hBW.setCell (p:=⟨w.heap.size,0,none⟩) (by simp) (.int .i64 (pk:Nat))).setCell (p:=⟨w.heap.size,1,none⟩) (by simp) (.int .i64 ((pp:Int)+((nm.length:Int)+1)))
     exact eH Tryz.results63 rfl (cs:=#[.int .i64 pk,.int .i64 ((pp:Int)+((nm.length:Int)+1))]) ((hX.set 0 _).set 1 _) Tryz.underlying66 rfl fJ rfl ⟨by unfold iw;congr 5,H.out.kept dw,dQ.below dw⟩
    | inr x =>
     obtain rfl:=Option.some.inj lT.out
     go_enter Tryz.func63,Tryz.ntmps63
     go_wp2_with (first | (go_at_call 99;go_must (refine HH.out.mono ?_;rintro e w1 ⟨rfl,hb1⟩;have h1:=H0.out.kept hb1;have hx1:=hx0.kept hb1;have z0:=hx1.cell 0;have z1:=hx1.cell 1;have f0:=hx1.free 0;have f1:=hx1.free 1;have hz1:=hx1.lt;unfold iw)) | (go_at_call 100;go_must (refine(HT.out _ (by have:=hb1.size;simp;omega)).mono ?_;intro e w3 htb;obtain⟨k5,s5,a5,cp5,cZ,dh,hi5,rfl,hV,hl3,qx,hb3⟩:=htb.open;have hx3:=(hx1.alloc (.cells #[.int .i64 0,.int .i64 0] 66)).kept hb3;have hy3:=(Box.new w1 #[.int .i64 0,.int .i64 0] 66).kept hb3;have l1:=hy3.lt;have l0:=hx3.lt;have y0:=hx3.cell 0;have y1:=hx3.cell 1;have g0:=hx3.free 0;have g1:=hx3.free 1;have q0:=hy3.cell 0;have q1:=hy3.cell 1;have r0:=hy3.free 0;have r1:=hy3.free 1;have HV:=ah hV;clear hV htb)) | (with_reducible refine Stop.go (p:=wpList _ _ _ ({ dst:=some 41,op:=_,type:=_,pos:=_,after:=_,guard:=_ }::_) _ _) ?_))
     refine Stop.gen fun W hW=>?_
     have hzw:=hx1.lt
     obtain⟨V,Df⟩:∃ V,Vt.mk k5 s5 a5 cp5 cZ dh hi5=V:=⟨_,rfl⟩
     have hB1:=hB0.trans (hb1.mono hB0.size)
     have hB2:=hB1.trans ((aj w1 (.cells #[.int .i64 0,.int .i64 0] 66)).mono hB1.size)
     have hB3:=hB2.trans (hb3.mono hB2.size)
     have hB4:=(hB3.setCell (p:=⟨w1.heap.size,0,none⟩) (Nat.le_of_lt hzw) (.int .i64 0)).setCell (p:=⟨w1.heap.size,1,none⟩) (Nat.le_of_lt hzw) (.int .i64 0)
     have hBW:Below w.heap.size w W:=by
      rw[hW]
      exact hB4.trans ((aj _ _).mono hB4.size)
     have hX:Box W w.heap.size #[.int .i64 0,.int .i64 0] 66:=by
      rw[hW]
      exact((hx3.other ⟨w1.heap.size,0,none⟩ (.int .i64 0) (by show w.heap.size≠w1.heap.size;omega)).other ⟨w1.heap.size,1,none⟩ (.int .i64 0) (by show w.heap.size≠w1.heap.size;omega)).alloc _
     have hY:Box W w3.heap.size (aI k5 s5 a5 cZ.length cp5 dh hi5).toArray 115:=by
      rw[hW]
      exact Box.new' (by simp) _ _
     have hlW:Lies W V:=by
      rw[hW,←Df]
      refine(hl3.fK qx fun b hb=>?_).kept (aj _ _)
      rw[World.size_alloc] at hb
      exact(heap_setCell_other _ ⟨w1.heap.size,1,none⟩ b _ (by show b≠w1.heap.size;omega)).trans (heap_setCell_other _ ⟨w1.heap.size,0,none⟩ b _ (by show b≠w1.heap.size;omega))
     have KW:On (fun b=>w.heap.size<b) V:=by
      rw[←Df]
      exact qx.mono fun b hb=>by rw[World.size_alloc] at hb;omega
     have hYV:Box W w3.heap.size V.cells.toArray 115:=by rw[←Df];exact hY
     have hcell:(aI k5 s5 a5 cZ.length cp5 dh hi5).toArray=V.cells.toArray:=by rw[←Df];rfl
     have Sz:=HV.out
     rw[Df] at Sz
     have hS:=H.out.kept hBW
     have hlt:=hS.lt
     obtain⟨W2,hput,hm2,ho2,hsz2,FZ⟩:=hS.map.nD nG Tryz.underlying101 nm (.bool true)
     obtain⟨hnl,Aa,qU⟩:=KX.out
     have hw3:=l0
     have SA:Rs.length≠64:=by simpa using qU
     clear hW y0 y1 g0 g1 q0 q1 r0 r1 l0 l1 hx3 hy3 hl3 qx hB4 hB3 hB2 hB1 hb3 z0 z1 f0 f1 hz1 hx1 HV hY Df
     have c0:=hS.box.cell 0
     have c1:=hS.box.cell 1
     have hol:∀ g,(Value.slice a Rs.length cap).ownBlock=some g→g<w.heap.size:=fun g hg=>(H.out.lS g hg).2
     have hb2:Box W2 r #[.slice a Rs.length cap,.map (some m)] 103:=(ho2 r hlt.2.2).trans hS.box
     have hown2:Own W2 base 117 9 jk (.slice a Rs.length cap) Rs:=hS.own.eG fun g hg=>ho2 g (by have:=(hS.lS g hg).1;omega)
     have hm3:aP W2 m (fun s:List UInt8=>sv s) (vJ (Rs++[(nm,V)])):=by
      rw[jJ] at hm2
      ·rw[vJ,List.map_append];exact hm2
      ·have:=zZ nm Rs
       rw[Aa] at this
       cases hlk:look nm (vJ Rs) with
       | none=>rfl
       | some z =>
        obtain⟨p,hp,hpe⟩:=D6 hlk
        rw[vJ,List.mem_map] at hp
        obtain⟨q,_,rfl⟩:=hp
        rw[hlk] at this
        cases hpe
        cases this
     have hl2:∀ i (h:i<Rs.length),Lies W2 Rs[i].2:=fun i h=>(hS.lies i h).fK (hS.on i h) fun b hb=>ho2 b (by have:=hb.1;omega)
     have Sr:Lies W2 V:=hlW.fK KW fun b hb=>ho2 b (by omega)
     have hX2:Box W2 w.heap.size #[.int .i64 0,.int .i64 0] 66:=(ho2 _ (by omega)).trans hX
     have hsw:=hBW.size
     have hwW:=hX.lt
     have SB:Box W2 w3.heap.size (aI k5 s5 a5 cZ.length cp5 dh hi5).toArray 115:=(ho2 _ (by have:=hlt.2.1;omega)).trans (hcell▸hYV)
     have hk2:dQ r m (.slice a Rs.length cap) w W2:=by
      have h1:=FZ m (Nat.le_refl _)
      exact⟨h1.os.trans hBW.os,h1.tape.trans hBW.tape,h1.output.trans hBW.output,Nat.le_trans hBW.size h1.size,fun b hb _ h2 _=>(ho2 b h2).trans (hBW.block b hb)⟩
     have HF:Hid (∀ u,Later W2.drew u→Box u r #[.slice a Rs.length cap,.map (some m)] 103∧Own u base 117 9 jk (.slice a Rs.length cap) Rs∧aP u m (fun s:List UInt8=>sv s) (vJ (Rs++[(nm,V)]))∧(∀ i (h:i<Rs.length),Lies u Rs[i].2)∧Lies u V∧Box u w.heap.size #[.int .i64 0,.int .i64 0] 66∧Box u w3.heap.size (aI k5 s5 a5 cZ.length cp5 dh hi5).toArray 115∧dQ r m (.slice a Rs.length cap) w u):=ah fun u hu=>by
      have hB:Below W2.heap.size W2 u:=((Below.refl _ W2).drew).trans hu
      exact⟨hb2.kept hB,hown2.kept hB,hm3.kept hB,fun i h=>(hl2 i h).kept hB,Sr.kept hB,hX2.kept hB,SB.kept hB,hk2.tr (dQ.below hB)⟩
     have OT:=ah hS.on
     have HHL:=ah hlt
     have OU:=ah KW
     have HOL:=ah hol
     have ali:Rs.length<64:=by have:=hRs;omega
     have KZ:jk (nm,V)=sv nm::aI k5 s5 a5 cZ.length cp5 dh hi5:=by
      have:=congrArg Array.toList hcell
      exact congrArg (sv nm::·) this.symm
     have HEV:=ah KZ
     have La:=ah Sz
     have tq:=ah hBW
     clear hol hb2 hown2 hm3 hl2 Sr hX2 hk2 hS hm2 FZ hlt KW hlW hX hYV hcell hnl Aa qU SA KZ Sz
     go_wp2_with fail
     clear hput ho2 hsz2 c0 c1 SB
     refine jG (R:=Later) [9,12] (by kernel_rfl) ?_
     refine DN (T:=[9,12]) (i:=6) rfl (by kernel_rfl) (by kernel_rfl) (by kernel_rfl) (by kernel_rfl) (fun _ _ _ h=>h) (by rfl) (fun w1 hl=>cO 115 _ rfl _ rfl ((HF.out w1 hl).2.2.2.2.2.2.1) Tryz.underlying115 rfl ((by kernel_rfl))) ?_
     simp only[eA,eB,eC,Act.put,eD,eE,eF]
     refine pl [0,1,2,3] ?_
     repeat
      refine uN ?_ rfl (fun w1=>?_) ?_
      rotate_left
      ·go_simp;try with_reducible rfl
      simp only[eA,eB,eC,Act.put,eD,eE,eF]
     refine bV ?_
     refine CJ 4 ?_ rfl (fun w1 hl=>?_) ?_
     rotate_left
     ·obtain⟨hB0,_⟩:=HF.out w1 hl;have x0:=hB0.cell 0;have x1:=hB0.cell 1;go_simp;try with_reducible rfl
     simp only[eA,eB,eC,Act.put,eD,eE,eF]
     refine pl [5,7] ?_
     repeat
      refine uN ?_ rfl (fun w1=>?_) ?_
      rotate_left
      ·go_simp;try with_reducible rfl
      simp only[eA,eB,eC,Act.put,eD,eE,eF]
     refine bV ?_
     refine eP (T:=[9,12]) (i:=8) (by kernel_rfl) rfl (fun w1 hl K hK=>?_)
     go_simp
     refine hK.out _ _ (fun _=>aj _ _) ?_
     have hsl:=oz zY w1 117 [(nm,V)] (by simp[maxLen])
     rw[List.flatMap_cons,List.flatMap_nil,List.append_nil,HEV.out] at hsl
     have hlA:Later _ (w1.alloc (.cells (sv nm::aI k5 s5 a5 cZ.length cp5 dh hi5).toArray 117)):=Later.trans _ _ _ hl (aj _ _)
     clear hK K hl
     refine eP (T:=[9,12]) (i:=9) (by kernel_rfl) rfl (fun w1 hl K hK=>?_)
     obtain⟨e1,e2,e3,e4,e5,e6,_,e8⟩:=HF.out w1 (Later.trans _ _ _ hlA hl)
     have hnw:=CV (hsl.kept hl)
     have hsw:base≤w1.heap.size:=by have:=e8.size;omega
     clear hsl hl hlA
     refine eY (by rfl) ?_
     refine nX _ _ 64 rfl OM zY rfl e2 _ 1 ((nm,V):List UInt8×Vt) rfl hnw (by simp[maxLen];omega) (by omega) (by omega) ?_
     intro a' cap' w' hown' hg hfr
     refine hK.out _ _ (fun h=>absurd h (by decide)) ?_
     clear hK K hnw
     simp only[List.getElem_toArray,List.getElem_cons_zero,List.getElem_cons_succ,Act.put,List.setIfInBounds_toArray,List.set_cons_zero,List.set_cons_succ]
     have HP:=ah fun u (hu:Later w' u)=>Wi e1 e2 e3 e4 OT.out e5 OU.out HOL.out e6 e8 HHL.out hb hown' hg hfr hu
     clear e1 e2 e3 e4 e5 e6 e8 hown' hg hfr hsw HF OT
     refine pl [10,11] ?_
     repeat
      refine uN ?_ rfl (fun w1=>?_) ?_
      rotate_left
      ·go_simp;try with_reducible rfl
      simp only[eA,eB,eC,Act.put,eD,eE,eF]
     refine bV ?_
     refine eP (T:=[9,12]) (i:=12) (by kernel_rfl) rfl (fun w1 hl K hK=>?_)
     obtain⟨e1,e2,e3,e4,e5⟩:=HP.out w1 hl
     have x0:=e1.cell 0
     have f0:=e1.free 0
     go_simp
     refine hK.out _ _ (fun h=>absurd h (by decide)) ?_
     clear hK K x0 f0 e1 HP hl
     refine nU (by kernel_rfl) (fun w1 hl=>?_) _
     have e6:=e2.kept hl
     have e7:=e3.kept hl
     have e8:=e4.trans e5 (dQ.below hl)
     have z0:=e7.cell 0
     have z1:=e7.cell 1
     have f0:=e7.free 0
     have f1:=e7.free 1
     clear e2 e3 e4 hl
     go_wp2
     have hon:fH w.heap.size w1 ((w1.setCell ⟨w.heap.size,0,none⟩ (.int .i64 0)).setCell ⟨w.heap.size,1,none⟩ (.int .i64 0)):=(kK _).trans _ _ _ (fH.set _ 0 _) (fH.set _ 1 _)
     have hln:(Rs++[(nm,V)]).length=Rs.length+1:=by simp
     have hRd:=e6.only hon hb (fun e=>by
      obtain⟨_,cc,hbx⟩:=e6.own.block _ e
      exact absurd (hbx.iD e7) (by decide)) (fun i hi=>by
      by_cases h:i<Rs.length
      ·rw[List.getElem_append_left h];exact(H.out.lies i h).on.mono fun b hb=>by omega
      ·have:i=Rs.length:=by rw[hln] at hi;omega
       subst this
       simp only[List.getElem_append_right (Nat.le_refl _),Nat.sub_self,List.getElem_cons_zero]
       exact OU.out.mono fun b hb=>by omega)
     exact eH Tryz.results63 rfl (cs:=#[.int .i64 0,.int .i64 0]) ((e7.set 0 _).set 1 _) Tryz.underlying66 rfl fJ rfl (show Yr r base a cap Rs m w (.inr (nm,x)) _ _ from⟨a',cap',V,rfl,La.out,hRd,e8.only hon (Nat.le_refl _),e5⟩)
   ·have htx:=fun u (hu:au u (.slice (some ⟨g.1,g.2,none⟩) n c) 1 gI s) (hl:g.1<u.heap.size)=>KU N hN (g.1,g.2+(nm.length+1)) (n - (nm.length+1)) (c - (nm.length+1)) (s.drop (nm.length+1)) u (by
     have:=au.sub (f:=fun x:UInt8=>Value.int .u8 x.toNat) hu (nm.length+1) (n - (nm.length+1)) (by omega)
     rw[List.take_of_length_le (by rw[List.length_drop];omega)] at this
     unfold Jl at this
     rwa[if_neg hcc] at this) hl (qC.out.of fun b hb=>List.mem_of_mem_drop hb) P hpp
    have HT:=ah htx
    clear hhd htx h0 hs0 hs h hp hns hnl hc63 qU Aa hpp hans hq
    cases P with
    | inl p =>
     obtain⟨pk,pp⟩:=p
     have Jp:=aie _ rfl
     have ek:((pk:Int) != 0)=true:=by rw[bne_iff_ne];have:pk≠0:=Jp;omega
     obtain rfl:=Option.some.inj lT.out
     have KY:pp+(nm.length+1)≤4611686018427387904:=HQ.out _ rfl
     have BP:pp≤4611686018427387904:=by omega
     have HPL:=ah KY
     clear Jp KY
     go_enter Tryz.func63,Tryz.ntmps63
     go_wp2_with (first | (go_at_call 99;go_must (refine HH.out.mono ?_;rintro e w1 ⟨rfl,hb1⟩;have h1:=H0.out.kept hb1;have hx1:=hx0.kept hb1;have z0:=hx1.cell 0;have z1:=hx1.cell 1;have f0:=hx1.free 0;have f1:=hx1.free 1;have hz1:=hx1.lt;unfold iw)) | (go_at_call 100;go_must (refine(HT.out _ ((HS0.out.kept hb1).kept (aj _ _)) (by have:=hb1.size;simp;omega)).mono ?_;rintro e w3 ⟨hb3,rfl⟩;have hx3:=(hx1.alloc (.cells #[.int .i64 0,.int .i64 0] 66)).kept hb3;have hy3:=(Box.new w1 #[.int .i64 0,.int .i64 0] 66).kept hb3;have l1:=hy3.lt;have l0:=hx3.lt;have y0:=hx3.cell 0;have y1:=hx3.cell 1;have g0:=hx3.free 0;have g1:=hx3.free 1;have q0:=hy3.cell 0;have q1:=hy3.cell 1;have r0:=hy3.free 0;have r1:=hy3.free 1;unfold iw)) | (with_reducible refine Stop.go (p:=wpList _ _ _ ({ dst:=some 37,op:=_,type:=_,pos:=_,after:=_,guard:=_ }::_) _ _) ?_))
     refine Stop.gen fun W hW=>?_
     have hzw:=hx1.lt
     have hBW:Below w.heap.size w W:=by
      have hB1:=hB0.trans (hb1.mono hB0.size)
      have hB2:=hB1.trans ((aj w1 (.cells #[.int .i64 0,.int .i64 0] 66)).mono hB1.size)
      have hB3:=hB2.trans (hb3.mono hB2.size)
      have hB4:=((hB3.setCell (p:=⟨w1.heap.size,0,none⟩) (Nat.le_of_lt hzw) (.int .i64 (pk:Nat))).setCell (p:=⟨w1.heap.size,1,none⟩) (Nat.le_of_lt hzw) (.int .i64 (pp:Nat))).setCell (p:=⟨w1.heap.size,1,none⟩) (Nat.le_of_lt hzw) (.int .i64 ((pp:Int)+((nm.length:Int)+1)))
      rw[hW]
      exact hB4.trans ((aj _ _).mono hB4.size)
     have hX:Box W w.heap.size #[.int .i64 0,.int .i64 0] 66:=by
      rw[hW]
      exact(((hx3.other ⟨w1.heap.size,0,none⟩ (.int .i64 (pk:Nat)) (by show w.heap.size≠w1.heap.size;omega)).other ⟨w1.heap.size,1,none⟩ (.int .i64 (pp:Nat)) (by show w.heap.size≠w1.heap.size;omega)).other ⟨w1.heap.size,1,none⟩ (.int .i64 ((pp:Int)+((nm.length:Int)+1))) (by show w.heap.size≠w1.heap.size;omega)).alloc _
     have hY:Box W w1.heap.size #[.int .i64 pk,.int .i64 ((pp:Int)+((nm.length:Int)+1))] 66:=by
      rw[hW]
      exact(((hy3.set 0 (.int .i64 (pk:Nat))).set 1 (.int .i64 (pp:Nat))).set 1 (.int .i64 ((pp:Int)+((nm.length:Int)+1)))).alloc _
     clear hW y0 y1 g0 g1 q0 q1 r0 r1 l0 l1 hx3 hy3 hb3 hx1 z0 z1 f0 f1 hz1
     have c0:=hX.cell 0
     have c1:=hX.cell 1
     have d0:=hX.free 0
     have d1:=hX.free 1
     have c2:=hY.cell 0
     have c3:=hY.cell 1
     go_wp2
     have dw:=(hBW.setCell (p:=⟨w.heap.size,0,none⟩) (by simp) (.int .i64 (pk:Nat))).setCell (p:=⟨w.heap.size,1,none⟩) (by simp) (.int .i64 ((pp:Int)+((nm.length:Int)+1)))
     exact eH Tryz.results63 rfl (cs:=#[.int .i64 pk,.int .i64 ((pp:Int)+((nm.length:Int)+1))]) ((hX.set 0 _).set 1 _) Tryz.underlying66 rfl fJ rfl ⟨by unfold iw;congr 5,H.out.kept dw,dQ.below dw⟩
    | inr x =>
     obtain rfl:=Option.some.inj lT.out
     go_enter Tryz.func63,Tryz.ntmps63
     go_wp2_with (first | (go_at_call 99;go_must (refine HH.out.mono ?_;rintro e w1 ⟨rfl,hb1⟩;have h1:=H0.out.kept hb1;have hx1:=hx0.kept hb1;have z0:=hx1.cell 0;have z1:=hx1.cell 1;have f0:=hx1.free 0;have f1:=hx1.free 1;have hz1:=hx1.lt;unfold iw)) | (go_at_call 100;go_must (refine(HT.out _ ((HS0.out.kept hb1).kept (aj _ _)) (by have:=hb1.size;simp;omega)).mono ?_;intro e w3 htb;obtain⟨k5,s5,a5,cp5,cZ,dh,hi5,rfl,hV,hl3,qx,hb3⟩:=htb.open;have hx3:=(hx1.alloc (.cells #[.int .i64 0,.int .i64 0] 66)).kept hb3;have hy3:=(Box.new w1 #[.int .i64 0,.int .i64 0] 66).kept hb3;have l1:=hy3.lt;have l0:=hx3.lt;have y0:=hx3.cell 0;have y1:=hx3.cell 1;have g0:=hx3.free 0;have g1:=hx3.free 1;have q0:=hy3.cell 0;have q1:=hy3.cell 1;have r0:=hy3.free 0;have r1:=hy3.free 1;have HV:=ah hV;clear hV htb)) | (with_reducible refine Stop.go (p:=wpList _ _ _ ({ dst:=some 41,op:=_,type:=_,pos:=_,after:=_,guard:=_ }::_) _ _) ?_))
     refine Stop.gen fun W hW=>?_
     have hzw:=hx1.lt
     obtain⟨V,Df⟩:∃ V,Vt.mk k5 s5 a5 cp5 cZ dh hi5=V:=⟨_,rfl⟩
     have hB1:=hB0.trans (hb1.mono hB0.size)
     have hB2:=hB1.trans ((aj w1 (.cells #[.int .i64 0,.int .i64 0] 66)).mono hB1.size)
     have hB3:=hB2.trans (hb3.mono hB2.size)
     have hB4:=(hB3.setCell (p:=⟨w1.heap.size,0,none⟩) (Nat.le_of_lt hzw) (.int .i64 0)).setCell (p:=⟨w1.heap.size,1,none⟩) (Nat.le_of_lt hzw) (.int .i64 0)
     have hBW:Below w.heap.size w W:=by
      rw[hW]
      exact hB4.trans ((aj _ _).mono hB4.size)
     have hX:Box W w.heap.size #[.int .i64 0,.int .i64 0] 66:=by
      rw[hW]
      exact((hx3.other ⟨w1.heap.size,0,none⟩ (.int .i64 0) (by show w.heap.size≠w1.heap.size;omega)).other ⟨w1.heap.size,1,none⟩ (.int .i64 0) (by show w.heap.size≠w1.heap.size;omega)).alloc _
     have hY:Box W w3.heap.size (aI k5 s5 a5 cZ.length cp5 dh hi5).toArray 115:=by
      rw[hW]
      exact Box.new' (by simp) _ _
     have hlW:Lies W V:=by
      rw[hW,←Df]
      refine(hl3.fK qx fun b hb=>?_).kept (aj _ _)
      rw[World.size_alloc] at hb
      exact(heap_setCell_other _ ⟨w1.heap.size,1,none⟩ b _ (by show b≠w1.heap.size;omega)).trans (heap_setCell_other _ ⟨w1.heap.size,0,none⟩ b _ (by show b≠w1.heap.size;omega))
     have KW:On (fun b=>w.heap.size<b) V:=by
      rw[←Df]
      exact qx.mono fun b hb=>by rw[World.size_alloc] at hb;omega
     have hYV:Box W w3.heap.size V.cells.toArray 115:=by rw[←Df];exact hY
     have hcell:(aI k5 s5 a5 cZ.length cp5 dh hi5).toArray=V.cells.toArray:=by rw[←Df];rfl
     have Sz:=HV.out
     rw[Df] at Sz
     have hS:=H.out.kept hBW
     have hlt:=hS.lt
     obtain⟨W2,hput,hm2,ho2,hsz2,FZ⟩:=hS.map.nD nG Tryz.underlying101 nm (.bool true)
     obtain⟨hnl,Aa,qU⟩:=KX.out
     have hw3:=l0
     have SA:Rs.length≠64:=by simpa using qU
     clear hW y0 y1 g0 g1 q0 q1 r0 r1 l0 l1 hx3 hy3 hl3 qx hB4 hB3 hB2 hB1 hb3 z0 z1 f0 f1 hz1 hx1 HV hY Df
     have c0:=hS.box.cell 0
     have c1:=hS.box.cell 1
     have hol:∀ g,(Value.slice a Rs.length cap).ownBlock=some g→g<w.heap.size:=fun g hg=>(H.out.lS g hg).2
     have hb2:Box W2 r #[.slice a Rs.length cap,.map (some m)] 103:=(ho2 r hlt.2.2).trans hS.box
     have hown2:Own W2 base 117 9 jk (.slice a Rs.length cap) Rs:=hS.own.eG fun g hg=>ho2 g (by have:=(hS.lS g hg).1;omega)
     have hm3:aP W2 m (fun s:List UInt8=>sv s) (vJ (Rs++[(nm,V)])):=by
      rw[jJ] at hm2
      ·rw[vJ,List.map_append];exact hm2
      ·have:=zZ nm Rs
       rw[Aa] at this
       cases hlk:look nm (vJ Rs) with
       | none=>rfl
       | some z =>
        obtain⟨p,hp,hpe⟩:=D6 hlk
        rw[vJ,List.mem_map] at hp
        obtain⟨q,_,rfl⟩:=hp
        rw[hlk] at this
        cases hpe
        cases this
     have hl2:∀ i (h:i<Rs.length),Lies W2 Rs[i].2:=fun i h=>(hS.lies i h).fK (hS.on i h) fun b hb=>ho2 b (by have:=hb.1;omega)
     have Sr:Lies W2 V:=hlW.fK KW fun b hb=>ho2 b (by omega)
     have hX2:Box W2 w.heap.size #[.int .i64 0,.int .i64 0] 66:=(ho2 _ (by omega)).trans hX
     have hsw:=hBW.size
     have hwW:=hX.lt
     have SB:Box W2 w3.heap.size (aI k5 s5 a5 cZ.length cp5 dh hi5).toArray 115:=(ho2 _ (by have:=hlt.2.1;omega)).trans (hcell▸hYV)
     have hk2:dQ r m (.slice a Rs.length cap) w W2:=by
      have h1:=FZ m (Nat.le_refl _)
      exact⟨h1.os.trans hBW.os,h1.tape.trans hBW.tape,h1.output.trans hBW.output,Nat.le_trans hBW.size h1.size,fun b hb _ h2 _=>(ho2 b h2).trans (hBW.block b hb)⟩
     have HF:Hid (∀ u,Later W2.drew u→Box u r #[.slice a Rs.length cap,.map (some m)] 103∧Own u base 117 9 jk (.slice a Rs.length cap) Rs∧aP u m (fun s:List UInt8=>sv s) (vJ (Rs++[(nm,V)]))∧(∀ i (h:i<Rs.length),Lies u Rs[i].2)∧Lies u V∧Box u w.heap.size #[.int .i64 0,.int .i64 0] 66∧Box u w3.heap.size (aI k5 s5 a5 cZ.length cp5 dh hi5).toArray 115∧dQ r m (.slice a Rs.length cap) w u):=ah fun u hu=>by
      have hB:Below W2.heap.size W2 u:=((Below.refl _ W2).drew).trans hu
      exact⟨hb2.kept hB,hown2.kept hB,hm3.kept hB,fun i h=>(hl2 i h).kept hB,Sr.kept hB,hX2.kept hB,SB.kept hB,hk2.tr (dQ.below hB)⟩
     have OT:=ah hS.on
     have HHL:=ah hlt
     have OU:=ah KW
     have HOL:=ah hol
     have ali:Rs.length<64:=by have:=hRs;omega
     have KZ:jk (nm,V)=sv nm::aI k5 s5 a5 cZ.length cp5 dh hi5:=by
      have:=congrArg Array.toList hcell
      exact congrArg (sv nm::·) this.symm
     have HEV:=ah KZ
     have La:=ah Sz
     have tq:=ah hBW
     clear hol hb2 hown2 hm3 hl2 Sr hX2 hk2 hS hm2 FZ hlt KW hlW hX hYV hcell hnl Aa qU SA KZ Sz
     go_wp2_with fail
     clear hput ho2 hsz2 c0 c1 SB
     refine jG (R:=Later) [9,12] (by kernel_rfl) ?_
     refine DN (T:=[9,12]) (i:=6) rfl (by kernel_rfl) (by kernel_rfl) (by kernel_rfl) (by kernel_rfl) (fun _ _ _ h=>h) (by rfl) (fun w1 hl=>cO 115 _ rfl _ rfl ((HF.out w1 hl).2.2.2.2.2.2.1) Tryz.underlying115 rfl ((by kernel_rfl))) ?_
     simp only[eA,eB,eC,Act.put,eD,eE,eF]
     refine pl [0,1,2,3] ?_
     repeat
      refine uN ?_ rfl (fun w1=>?_) ?_
      rotate_left
      ·go_simp;try with_reducible rfl
      simp only[eA,eB,eC,Act.put,eD,eE,eF]
     refine bV ?_
     refine CJ 4 ?_ rfl (fun w1 hl=>?_) ?_
     rotate_left
     ·obtain⟨hB0,_⟩:=HF.out w1 hl;have x0:=hB0.cell 0;have x1:=hB0.cell 1;go_simp;try with_reducible rfl
     simp only[eA,eB,eC,Act.put,eD,eE,eF]
     refine pl [5,7] ?_
     repeat
      refine uN ?_ rfl (fun w1=>?_) ?_
      rotate_left
      ·go_simp;try with_reducible rfl
      simp only[eA,eB,eC,Act.put,eD,eE,eF]
     refine bV ?_
     refine eP (T:=[9,12]) (i:=8) (by kernel_rfl) rfl (fun w1 hl K hK=>?_)
     go_simp
     refine hK.out _ _ (fun _=>aj _ _) ?_
     have hsl:=oz zY w1 117 [(nm,V)] (by simp[maxLen])
     rw[List.flatMap_cons,List.flatMap_nil,List.append_nil,HEV.out] at hsl
     have hlA:Later _ (w1.alloc (.cells (sv nm::aI k5 s5 a5 cZ.length cp5 dh hi5).toArray 117)):=Later.trans _ _ _ hl (aj _ _)
     clear hK K hl
     refine eP (T:=[9,12]) (i:=9) (by kernel_rfl) rfl (fun w1 hl K hK=>?_)
     obtain⟨e1,e2,e3,e4,e5,e6,_,e8⟩:=HF.out w1 (Later.trans _ _ _ hlA hl)
     have hnw:=CV (hsl.kept hl)
     have hsw:base≤w1.heap.size:=by have:=e8.size;omega
     clear hsl hl hlA
     refine eY (by rfl) ?_
     refine nX _ _ 64 rfl OM zY rfl e2 _ 1 ((nm,V):List UInt8×Vt) rfl hnw (by simp[maxLen];omega) (by omega) (by omega) ?_
     intro a' cap' w' hown' hg hfr
     refine hK.out _ _ (fun h=>absurd h (by decide)) ?_
     clear hK K hnw
     simp only[List.getElem_toArray,List.getElem_cons_zero,List.getElem_cons_succ,Act.put,List.setIfInBounds_toArray,List.set_cons_zero,List.set_cons_succ]
     have HP:=ah fun u (hu:Later w' u)=>Wi e1 e2 e3 e4 OT.out e5 OU.out HOL.out e6 e8 HHL.out hb hown' hg hfr hu
     clear e1 e2 e3 e4 e5 e6 e8 hown' hg hfr hsw HF OT
     refine pl [10,11] ?_
     repeat
      refine uN ?_ rfl (fun w1=>?_) ?_
      rotate_left
      ·go_simp;try with_reducible rfl
      simp only[eA,eB,eC,Act.put,eD,eE,eF]
     refine bV ?_
     refine eP (T:=[9,12]) (i:=12) (by kernel_rfl) rfl (fun w1 hl K hK=>?_)
     obtain⟨e1,e2,e3,e4,e5⟩:=HP.out w1 hl
     have x0:=e1.cell 0
     have f0:=e1.free 0
     go_simp
     refine hK.out _ _ (fun h=>absurd h (by decide)) ?_
     clear hK K x0 f0 e1 HP hl
     refine nU (by kernel_rfl) (fun w1 hl=>?_) _
     have e6:=e2.kept hl
     have e7:=e3.kept hl
     have e8:=e4.trans e5 (dQ.below hl)
     have z0:=e7.cell 0
     have z1:=e7.cell 1
     have f0:=e7.free 0
     have f1:=e7.free 1
     clear e2 e3 e4 hl
     go_wp2
     have hon:fH w.heap.size w1 ((w1.setCell ⟨w.heap.size,0,none⟩ (.int .i64 0)).setCell ⟨w.heap.size,1,none⟩ (.int .i64 0)):=(kK _).trans _ _ _ (fH.set _ 0 _) (fH.set _ 1 _)
     have hln:(Rs++[(nm,V)]).length=Rs.length+1:=by simp
     have hRd:=e6.only hon hb (fun e=>by
      obtain⟨_,cc,hbx⟩:=e6.own.block _ e
      exact absurd (hbx.iD e7) (by decide)) (fun i hi=>by
      by_cases h:i<Rs.length
      ·rw[List.getElem_append_left h];exact(H.out.lies i h).on.mono fun b hb=>by omega
      ·have:i=Rs.length:=by rw[hln] at hi;omega
       subst this
       simp only[List.getElem_append_right (Nat.le_refl _),Nat.sub_self,List.getElem_cons_zero]
       exact OU.out.mono fun b hb=>by omega)
     exact eH Tryz.results63 rfl (cs:=#[.int .i64 0,.int .i64 0]) ((e7.set 0 _).set 1 _) Tryz.underlying66 rfl fJ rfl (show Yr r base a cap Rs m w (.inr (nm,x)) _ _ from⟨a',cap',V,rfl,La.out,hRd,e8.only hon (Nat.le_refl _),e5⟩)
end
section
theorem xM:∀ (L:List Lx) (x:Tr),(dU L x).2 <:+ L
 | [],x=>by rw[dU];exact List.suffix_refl _
 | a::L,x=>by
  rw[qm]
  have h:∀ y,(dU L y).2 <:+ a::L:=fun y=>(xM L y).trans (List.suffix_cons a L)
  split;· exact h _
  split;· exact h _
  split;· exact h _
  split;· exact h _
  exact List.suffix_refl _
theorem Yt{n d:Nat}{a:Lx}{L R:List Lx}{x:Tr}(h:pV n d a L=some (.inr (x,R))):∃ b,jm n (d+1) [] L=some (.inr (x,b::R)):=by
 unfold pV at h
 split at h
 ·cases h
 ·cases hA:jm n (d+1) [] L with
  | none=>rw[hA] at h;cases h
  | some A =>
   rw[hA] at h
   cases A with
   | inl q=>cases h
   | inr p =>
    obtain⟨y,R'⟩:=p
    cases R' with
    | nil=>cases h
    | cons b R' =>
     dsimp only at h
     split at h
     ·cases h;exact⟨b,rfl⟩
     ·cases h
theorem Bl:∀ n,(∀ d parts L x r,jm n d parts L=some (.inr (x,r))→r <:+ L)∧(∀ d parts L x r,jV n d parts L=some (.inr (x,r))→r <:+ L)∧(∀ d L x r,lM n d L=some (.inr (some (x,r)))→r <:+ L∧r.length<L.length):=by
 intro n
 induction n with
 | zero=>exact⟨fun d p L x r h=>(by rw[jm] at h;cases h),fun d p L x r h=>(by rw[jV] at h;cases h),fun d L x r h=>(by rw[lM] at h;cases h)⟩
 | succ n ih =>
  refine⟨fun d parts L x r h=>?_,fun d parts L x r h=>?_,fun d L x r h=>?_⟩
  ·rw[mg] at h
   split at h
   ·cases h
   ·cases h
   ·rename_i y r' hy
    have h1:=ih.2.1 _ _ _ _ _ hy
    cases r' with
    | nil=>cases h;exact h1
    | cons a r' =>
     by_cases h4:a.kind=4
     ·exact(ih.1 _ _ _ _ _ ((if_pos h4).symm.trans h)).trans ((List.suffix_cons a r').trans h1)
     ·have:=(if_neg h4).symm.trans h;cases this;exact h1
  ·rw[kP] at h
   split at h
   ·cases h
   ·cases h
   ·rename_i y r' hy
    exact(ih.2.1 _ _ _ _ _ h).trans ((xM _ _).trans (ih.2.2 _ _ _ _ hy).1)
   ·cases h;exact List.suffix_refl _
  ·cases L with
   | nil=>rw[uQ] at h;cases h
   | cons a L =>
    rw[pF] at h
    split at h
    ·cases h;exact⟨List.suffix_cons _ _,by simp⟩
    split at h
    ·cases hg:pV n d a L with
     | none=>rw[hg] at h;cases h
     | some G =>
      rw[hg] at h
      cases G with
      | inl q=>cases h
      | inr p =>
       obtain⟨y,R⟩:=p
       cases h
       obtain⟨b,hb⟩:=Yt hg
       have h1:=(List.suffix_cons b _).trans (ih.1 _ _ _ _ _ hb)
       exact⟨h1.trans (List.suffix_cons a L),by have:=h1.length_le;simp;omega⟩
    split at h;· cases h
    split at h;· cases h
    cases h
theorem aaX:∀ n,(∀ d parts L,3*L.length+3≤n→jm n d parts L≠none)∧(∀ d parts L,3*L.length+2≤n→jV n d parts L≠none)∧(∀ d L,3*L.length+1≤n→lM n d L≠none):=by
 intro n
 induction n with
 | zero=>exact⟨fun d p L h=>(by omega),fun d p L h=>(by omega),fun d L h=>(by omega)⟩
 | succ n ih =>
  refine⟨fun d parts L hl=>?_,fun d parts L hl=>?_,fun d L hl=>?_⟩
  ·rw[mg]
   have h1:=ih.2.1 d [] L (by omega)
   cases hp:jV n d [] L with
   | none=>exact absurd hp h1
   | some P =>
    cases P with
    | inl q=>simp
    | inr p =>
     obtain⟨x,r⟩:=p
     have h2:=((Bl n).2.1 _ _ _ _ _ hp).length_le
     cases r with
     | nil=>simp[Nw]
     | cons a r =>
      show Nw n d _ (a::r)≠none
      simp only[List.length_cons] at h2
      unfold Nw
      dsimp only
      split
      ·exact ih.1 _ _ _ (by omega)
      ·simp
  ·rw[kP]
   have h1:=ih.2.2 d L (by omega)
   cases hp:lM n d L with
   | none=>exact absurd hp h1
   | some P =>
    cases P with
    | inl q=>simp
    | inr o =>
     cases o with
     | none=>simp
     | some p =>
      obtain⟨x,r⟩:=p
      have h2:=((Bl n).2.2 _ _ _ _ hp).2
      have h3:=(xM r x).length_le
      exact ih.2.1 _ _ _ (by omega)
  ·cases L with
   | nil=>rw[uQ];simp
   | cons a L =>
    rw[pF]
    simp only[List.length_cons] at hl
    split;· simp
    split
    ·unfold pV
     split
     ·simp
     ·have h1:=ih.1 (d+1) [] L (by omega)
      cases hA:jm n (d+1) [] L with
      | none=>exact absurd hA h1
      | some A =>
       cases A with
       | inl q=>simp
       | inr p =>
        obtain⟨x,R⟩:=p
        cases R with
        | nil=>simp
        | cons b R =>
         dsimp only
         split <;> simp
    split;· simp
    split;· simp
    simp
theorem ag6(B:Nat):∀ n,(∀ d parts L q,(∀ a∈L,a.at'≤B)→jm n d parts L=some (.inl q)→q.2≤B)∧(∀ d parts L q,(∀ a∈L,a.at'≤B)→jV n d parts L=some (.inl q)→q.2≤B)∧(∀ d L q,(∀ a∈L,a.at'≤B)→lM n d L=some (.inl q)→q.2≤B):=by
 intro n
 induction n with
 | zero=>exact⟨fun d p L q _ h=>(by rw[jm] at h;cases h),fun d p L q _ h=>(by rw[jV] at h;cases h),fun d L q _ h=>(by rw[lM] at h;cases h)⟩
 | succ n ih =>
  refine⟨fun d parts L q hB h=>?_,fun d parts L q hB h=>?_,fun d L q hB h=>?_⟩
  ·rw[mg] at h
   split at h
   ·cases h
   ·rename_i q' hq;cases h;exact ih.2.1 _ _ _ _ hB hq
   ·rename_i x r hx
    have h1:=((Bl n).2.1 _ _ _ _ _ hx).subset
    cases r with
    | nil=>cases h
    | cons a r =>
     by_cases h4:a.kind=4
     ·exact ih.1 _ _ _ _ (fun b hb=>hB b (h1 (List.mem_cons_of_mem _ hb))) ((if_pos h4).symm.trans h)
     ·have:=(if_neg h4).symm.trans h;cases this
  ·rw[kP] at h
   split at h
   ·cases h
   ·rename_i q' hq;cases h;exact ih.2.2 _ _ _ hB hq
   ·rename_i x r hx
    have h1:=((xM r x).trans ((Bl n).2.2 _ _ _ _ hx).1).subset
    exact ih.2.1 _ _ _ _ (fun b hb=>hB b (h1 hb)) h
   ·cases h
  ·cases L with
   | nil=>rw[uQ] at h;cases h
   | cons a L =>
    have ha:=hB a (by simp)
    rw[pF] at h
    split at h;· cases h
    split at h
    ·unfold pV at h
     split at h
     ·cases h;exact ha
     ·cases hA:jm n (d+1) [] L with
      | none=>rw[hA] at h;cases h
      | some A =>
       rw[hA] at h
       cases A with
       | inl q'=>cases h;exact ih.1 _ _ _ _ (fun b hb=>hB b (List.mem_cons_of_mem _ hb)) hA
       | inr p =>
        obtain⟨x,R⟩:=p
        cases R with
        | nil=>cases h;exact ha
        | cons b R =>
         dsimp only at h
         split at h
         ·cases h
         ·cases h;exact ha
    split at h;· cases h;exact ha
    split at h;· cases h;exact ha
    cases h
theorem aaY{l:List UInt8}{i:Nat}(hi:i<l.length):(∀ q,nM l i=.inl q→q.2≤l.length)∧(∀ x,nM l i=.inr x→x.1.at'=i):=by
 unfold nM
 dsimp only
 split;· exact⟨fun q' h=>(by cases h;simp;omega),fun x h=>(by cases h)⟩
 split;· exact⟨fun q' h=>(by cases h;simp;omega),fun x h=>(by cases h)⟩
 split;· exact⟨fun q' h=>(by cases h),fun x h=>(by cases h;rfl)⟩
 exact⟨fun q' h=>(by cases h),fun x h=>(by cases h;rfl)⟩
theorem Yu{l:List UInt8}:∀ (n i:Nat) (acc:List Lx),(∀ a∈acc,a.at'≤l.length)→(∀ q,lexFrom l n i acc=.inl q→q.2≤l.length)∧(∀ X,lexFrom l n i acc=.inr X→∀ a∈X,a.at'≤l.length):=by
 intro n
 induction n with
 | zero=>intro i acc ha;rw[lexFrom];exact⟨fun q h=>(by cases h),fun X h=>(by cases h;exact ha)⟩
 | succ n ih =>
  intro i acc ha
  rw[lexFrom]
  by_cases hi:i<l.length
  ·rw[if_pos hi]
   have h1:=aaY hi
   cases ho:nM l i with
   | inl q=>exact⟨fun q' h=>(by cases h;exact h1.1 _ ho),fun X h=>(by cases h)⟩
   | inr p =>
    obtain⟨x,j⟩:=p
    refine ih j (acc++[x]) fun a hm=>?_
    rcases List.mem_append.1 hm with hm | hm
    ·exact ha a hm
    ·rw[List.mem_singleton] at hm;subst hm
     have:=h1.2 _ ho
     simp only at this
     omega
  ·rw[if_neg hi];exact⟨fun q h=>(by cases h),fun X h=>(by cases h;exact ha)⟩
theorem aaZ{l:List UInt8}(hl:l.length≤65536):(∀ q,ku l=.inl q→q.2≤65536)∧(∀ X,ku l=.inr X→∀ a∈X,a.at'≤65536):=by
 unfold ku
 rw[if_neg (by omega)]
 have h:=Yu (l:=l) (l.length+1) 0 [] (fun a h=>by simp at h)
 exact⟨fun q hq=>Nat.le_trans (h.1 q hq) hl,fun X hX a ha=>Nat.le_trans (h.2 X hX a ha) hl⟩
theorem Vk{l:List UInt8}:sW 4096 l≠none:=by
 rw[xJ]
 cases hx:ku l with
 | inl q=>simp
 | inr L =>
  show zV 4096 L≠none
  unfold zV
  split
  ·simp
  ·have:=(aaX 4096).1 0 [] L (by omega)
   cases hA:jm 4096 0 [] L with
   | none=>exact absurd hA this
   | some A=>simp
theorem aa0{l:List UInt8}(hl:l.length≤65536){q:Nat×Nat}(h:sW 4096 l=some (.inl q)):q.2≤65536:=by
 rw[xJ] at h
 have h1:=aaZ hl
 cases hx:ku l with
 | inl q'=>rw[hx] at h;cases h;exact h1.1 _ hx
 | inr L =>
  rw[hx] at h
  have h2:=h1.2 _ hx
  have h:zV 4096 L=some (.inl q):=h
  unfold zV at h
  split at h
  ·rename_i hb
   cases h
   show(L.getD 1024 _).at'≤65536
   rw[List.getD_eq_getElem?_getD,List.getElem?_eq_getElem hb]
   exact h2 _ (List.getElem_mem hb)
  ·cases hA:jm 4096 0 [] L with
   | none=>rw[hA] at h;cases h
   | some A =>
    rw[hA] at h
    cases A with
    | inl q'=>cases h;exact(ag6 65536 4096).1 _ _ _ _ h2 hA
    | inr p=>cases h
theorem Yv(have':List (List UInt8))(s:List UInt8):zn 4096 have' s≠none:=by
 rw[xK]
 cases rQ have' s with
 | inl q=>simp
 | inr nm =>
  have:=Vk (l:=s.drop (nm.length+1))
  cases hp:sW 4096 (s.drop (nm.length+1)) with
  | none=>exact absurd hp this
  | some P=>simp[hp]
theorem adN{have':List (List UInt8)}{s:List UInt8}(hl:s.length≤65536){q:Nat×Nat}(h:zn 4096 have' s=some (.inl q)):q.2≤200000∧q.1≠0:=by
 rw[xK] at h
 have hk:=vH true s
 cases hh:rQ have' s with
 | inl q' =>
  rw[hh] at h
  cases h
  refine⟨?_,Sm hh⟩
  unfold rQ at hh
  split at hh;· cases hh;simp
  split at hh;· cases hh;simp
  split at hh;· cases hh;simp
  split at hh;· cases hh;show runFrom true s≤_;omega
  split at hh;· cases hh;simp
  cases hh
 | inr nm =>
  rw[hh] at h
  have h2:=FY hh
  dsimp only at h
  cases hp:sW 4096 (s.drop (nm.length+1)) with
  | none=>rw[hp] at h;cases h
  | some P =>
   rw[hp] at h
   cases P with
   | inl q' =>
    cases h
    have:=aa0 (by rw[List.length_drop];omega) hp
    exact⟨by show q'.2+(nm.length+1)≤_;omega,show q'.1≠0 from OQ hp⟩
   | inr x=>cases h
end
end Go.Proofs.YtengfapcaaacaaaGreatDoor
