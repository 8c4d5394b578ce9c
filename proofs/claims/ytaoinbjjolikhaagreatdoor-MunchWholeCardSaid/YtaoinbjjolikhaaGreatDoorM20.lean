/- The texts of B20, in few letters (mini.py). -/
import Derived.Test.YtaoinbjjolikhaaGreatDoorM19
set_option linter.unusedVariables false
set_option linter.unusedSimpArgs false
set_option maxRecDepth 20000
set_option maxHeartbeats 1600000
namespace Go.Proofs.YtaoinbjjolikhaaGreatDoor
section
open Go.RowKit
theorem agj(r base:Nat)(a:Option Addr)(cap:Nat)(Rs:List (List UInt8×Vt))(m:Nat)(g:Nat×Nat)(n c:Nat)(s:List UInt8)(w:World)(h:rH w r base a cap Rs m)(hs:ak w (.slice (some ⟨g.1,g.2,none⟩) n c) 1 bQ s)(hn:n≤4611686018427387904) :
  Calls Tryz.prog 73 #[.pointer (some ⟨r,0,none⟩),.slice (some ⟨g.1,g.2,none⟩) n c] w (aeX w (sS (Rs.map (·.1)) s)):=by
 have hB0:=aj w (.cells #[.int .i64 0,.int .i64 0] 69)
 have h0:=h.kept hB0
 have hx0:=Box.new w #[.int .i64 0,.int .i64 0] 69
 have hrun:=ZL g.1 g.2 n c s _ (hs.kept hB0)
 have hC:=hs.cellsA
 obtain⟨hns,hnc,hc63,hCC⟩:=hC
 have HC:=ah hCC
 have HNS:=ah hns
 have hle:=vO true s
 have hconv:=fun u (hu:ak u (.slice (some ⟨g.1,g.2,none⟩) (runFrom true s) c) 1 bQ (s.take (runFrom true s)))=>agh (P:=Tryz.prog) (src:=28) (dst:=9) Tryz.underlying28 Tryz.underlying5 Tryz.underlying9 (by rw[List.length_take,Nat.min_eq_left hle]) hu
 have hlen:(Rs.map (·.1)).length=Rs.length:=by simp
 have hz:=PI
 unfold sS
 rw[hlen]
 generalize hk:runFrom true s=k at *
 have HR:=ah hrun
 have H0:=ah h0
 have HS:=ah hs
 have Wu:=ah hconv
 have hkn:k≤n:=by omega
 clear hrun h0 hs hCC hconv hlen h hns hk
 by_cases h1:Rs.length=64
 ·rw[if_pos h1]
  have e1:((Rs.length:Int)==64)=true:=by rw[h1];rfl
  clear h1
  go_enter Tryz.func73,Tryz.ntmps73
  go_wp2_with (go_at_call 98;go_must (refine HR.out.mono ?_;rintro e w1 ⟨rfl,hb1⟩;have h1:=H0.out.kept hb1;have hx1:=hx0.kept hb1;have x0:=h1.box.cell 0;have x1:=h1.box.cell 1;have z0:=hx1.cell 0;have z1:=hx1.cell 1;have f0:=hx1.free 0;have f1:=hx1.free 1))
  exact jD Tryz.results73 rfl rfl ((hx1.set 0 (.int .i64 18)).set 1 (.int .i64 0)) Tryz.underlying69 rfl eP rfl ⟨rfl,((hB0.trans (hb1.mono hB0.size)).setCell (p:=⟨w.heap.size,0,none⟩) (by simp) (.int .i64 18)).setCell (p:=⟨w.heap.size,1,none⟩) (by simp) (.int .i64 0)⟩
 rw[if_neg h1]
 have e1:((Rs.length:Int)==64)=false:=by rw[beq_eq_false_iff_ne];omega
 clear h1
 by_cases h2:k=0
 ·rw[if_pos h2]
  have e2:((k:Int)==0)=true:=by rw[h2];rfl
  clear h2
  go_enter Tryz.func73,Tryz.ntmps73
  go_wp2_with (go_at_call 98;go_must (refine HR.out.mono ?_;rintro e w1 ⟨rfl,hb1⟩;have h1:=H0.out.kept hb1;have hx1:=hx0.kept hb1;have x0:=h1.box.cell 0;have x1:=h1.box.cell 1;have z0:=hx1.cell 0;have z1:=hx1.cell 1;have f0:=hx1.free 0;have f1:=hx1.free 1))
  exact jD Tryz.results73 rfl rfl ((hx1.set 0 (.int .i64 9)).set 1 (.int .i64 0)) Tryz.underlying69 rfl eP rfl ⟨rfl,((hB0.trans (hb1.mono hB0.size)).setCell (p:=⟨w.heap.size,0,none⟩) (by simp) (.int .i64 9)).setCell (p:=⟨w.heap.size,1,none⟩) (by simp) (.int .i64 0)⟩
 rw[if_neg h2]
 have e2:((k:Int)==0)=false:=by rw[beq_eq_false_iff_ne];omega
 clear h2
 by_cases h3:32<k
 ·rw[if_pos h3]
  have e3:decide ((32:Int)<(k:Int))=true:=by simp;omega
  have e3':(32:Int)<(k:Int):=by omega
  clear h3
  go_enter Tryz.func73,Tryz.ntmps73
  go_wp2_with (go_at_call 98;go_must (refine HR.out.mono ?_;rintro e w1 ⟨rfl,hb1⟩;have h1:=H0.out.kept hb1;have hx1:=hx0.kept hb1;have x0:=h1.box.cell 0;have x1:=h1.box.cell 1;have z0:=hx1.cell 0;have z1:=hx1.cell 1;have f0:=hx1.free 0;have f1:=hx1.free 1))
  exact jD Tryz.results73 rfl rfl ((hx1.set 0 (.int .i64 9)).set 1 (.int .i64 32)) Tryz.underlying69 rfl eP rfl ⟨rfl,((hB0.trans (hb1.mono hB0.size)).setCell (p:=⟨w.heap.size,0,none⟩) (by simp) (.int .i64 9)).setCell (p:=⟨w.heap.size,1,none⟩) (by simp) (.int .i64 32)⟩
 rw[if_neg h3]
 have e3:decide ((32:Int)<(k:Int))=false:=by simp;omega
 clear h3
 by_cases h4:bC s k 58=false
 ·rw[if_pos h4]
  by_cases h5:k=n
  ·have e4:((k:Int)==(n:Int))=true:=by rw[h5];simp
   clear h4 h5
   go_enter Tryz.func73,Tryz.ntmps73
   go_wp2_with (go_at_call 98;go_must (refine HR.out.mono ?_;rintro e w1 ⟨rfl,hb1⟩;have h1:=H0.out.kept hb1;have hx1:=hx0.kept hb1;have x0:=h1.box.cell 0;have x1:=h1.box.cell 1;have z0:=hx1.cell 0;have z1:=hx1.cell 1;have f0:=hx1.free 0;have f1:=hx1.free 1))
   exact jD Tryz.results73 rfl rfl ((hx1.set 0 (.int .i64 10)).set 1 (.int .i64 k)) Tryz.underlying69 rfl eP rfl ⟨rfl,((hB0.trans (hb1.mono hB0.size)).setCell (p:=⟨w.heap.size,0,none⟩) (by simp) (.int .i64 10)).setCell (p:=⟨w.heap.size,1,none⟩) (by simp) (.int .i64 k)⟩
  ·have e4:((k:Int)==(n:Int))=false:=by rw[beq_eq_false_iff_ne];omega
   have hks:k<s.length:=by rw[←HNS.out];omega
   have hy:=HC.out k hks
   have hne:((s[k].toNat:Int) != 58)=true:=by
    unfold bC at h4
    rw[decide_eq_true hks,Bool.true_and,List.getD_eq_getElem?_getD,List.getElem?_eq_getElem hks,Option.getD_some,beq_eq_false_iff_ne] at h4
    rw[bne_iff_ne]
    intro e
    refine h4 ?_
    apply UInt8.toNat_inj.1
    have:s[k].toNat=58:=by omega
    rw[this];rfl
   generalize s[k]=x at *
   have HY:=ah hy
   have hki:(k:Int)<(n:Int):=by omega
   have hk0:(0:Int)≤(k:Int):=by omega
   clear h4 h5 hy hks
   go_enter Tryz.func73,Tryz.ntmps73
   go_wp2_with (go_at_call 98;go_must (refine HR.out.mono ?_;rintro e w1 ⟨rfl,hb1⟩;have h1:=H0.out.kept hb1;have hx1:=hx0.kept hb1;have x0:=h1.box.cell 0;have x1:=h1.box.cell 1;have z0:=hx1.cell 0;have z1:=hx1.cell 1;have f0:=hx1.free 0;have f1:=hx1.free 1;have y0:=HY.out w1 (hB0.trans (hb1.mono hB0.size))))
   exact jD Tryz.results73 rfl rfl ((hx1.set 0 (.int .i64 10)).set 1 (.int .i64 k)) Tryz.underlying69 rfl eP rfl ⟨rfl,((hB0.trans (hb1.mono hB0.size)).setCell (p:=⟨w.heap.size,0,none⟩) (by simp) (.int .i64 10)).setCell (p:=⟨w.heap.size,1,none⟩) (by simp) (.int .i64 k)⟩
 rw[if_neg h4]
 have hks:k<s.length:=by
  unfold bC at h4
  rw[Bool.not_eq_false,Bool.and_eq_true,decide_eq_true_eq] at h4
  exact h4.1
 have e4:((k:Int)==(n:Int))=false:=by rw[beq_eq_false_iff_ne];have:=HNS.out;omega
 have hy:=HC.out k hks
 have hne:((s[k].toNat:Int) != 58)=false:=by
  unfold bC at h4
  rw[Bool.not_eq_false,Bool.and_eq_true,List.getD_eq_getElem?_getD,List.getElem?_eq_getElem hks,Option.getD_some,beq_iff_eq] at h4
  rw[h4.2];rfl
 generalize s[k]=x at *
 have HY:=ah hy
 have hki:(k:Int)<(n:Int):=by have:=HNS.out;omega
 have hk0:(0:Int)≤(k:Int):=by omega
 have hkc:(k:Int)≤(c:Int):=by have:=HNS.out;omega
 have apW:IntKind.i64.wrap (k:Int)=(k:Int):=by rw[IntWalk.i64_in _ (by omega)]
 clear h4 hy hks
 cases h5:(Rs.map (·.1)).contains (s.take k) with
 | true =>
  rw[if_pos rfl]
  have HH:=ah h5
  clear h5
  go_enter Tryz.func73,Tryz.ntmps73
  go_wp2_with (go_at_call 98;go_must (refine HR.out.mono ?_;rintro e w1 ⟨rfl,hb1⟩;have h1:=H0.out.kept hb1;have hx1:=hx0.kept hb1;have x0:=h1.box.cell 0;have x1:=h1.box.cell 1;have z0:=hx1.cell 0;have z1:=hx1.cell 1;have f0:=hx1.free 0;have f1:=hx1.free 1;have y0:=HY.out w1 (hB0.trans (hb1.mono hB0.size));have hcv:=Wu.out w1 ((HS.out.kept (hB0.trans (hb1.mono hB0.size))).aeW k (by omega));have hlk:=lI h1.map mV Tryz.underlying87 (hz w1) (s.take k);rw[AQ,HH.out] at hlk))
  exact jD Tryz.results73 rfl rfl ((hx1.set 0 (.int .i64 8)).set 1 (.int .i64 0)) Tryz.underlying69 rfl eP rfl ⟨rfl,((hB0.trans (hb1.mono hB0.size)).setCell (p:=⟨w.heap.size,0,none⟩) (by simp) (.int .i64 8)).setCell (p:=⟨w.heap.size,1,none⟩) (by simp) (.int .i64 0)⟩
 | false =>
  rw[if_neg (by simp)]
  have HH:=ah h5
  clear h5
  go_enter Tryz.func73,Tryz.ntmps73
  go_wp2_with (go_at_call 98;go_must (refine HR.out.mono ?_;rintro e w1 ⟨rfl,hb1⟩;have h1:=H0.out.kept hb1;have hx1:=hx0.kept hb1;have x0:=h1.box.cell 0;have x1:=h1.box.cell 1;have z0:=hx1.cell 0;have z1:=hx1.cell 1;have f0:=hx1.free 0;have f1:=hx1.free 1;have y0:=HY.out w1 (hB0.trans (hb1.mono hB0.size));have hcv:=Wu.out w1 ((HS.out.kept (hB0.trans (hb1.mono hB0.size))).aeW k (by omega));have hlk:=lI h1.map mV Tryz.underlying87 (hz w1) (s.take k);rw[AQ,HH.out] at hlk))
  exact jD Tryz.results73 rfl rfl ((hx1.set 0 (.int .i64 0)).set 1 (.int .i64 0)) Tryz.underlying69 rfl eP rfl ⟨rfl,((hB0.trans (hb1.mono hB0.size)).setCell (p:=⟨w.heap.size,0,none⟩) (by simp) (.int .i64 0)).setCell (p:=⟨w.heap.size,1,none⟩) (by simp) (.int .i64 0)⟩
end
section
open Go.RowKit
def Stop(p:Prop):Prop:=p
theorem Stop.go{p:Prop}(h:Stop p):p:=h
theorem Stop.gen{P:Program}{ops:Array Oper}{l:List Oper}{Q:Exit→Act→World→Prop}{a:Act}{w:World}(h:∀ W,W=w→wpList P ops Q l a W):Stop (wpList P ops Q l a w):=h w rfl
def Yg(r base:Nat)(a:Option Addr)(cap:Nat)(Rs:List (List UInt8×Vt))(m:Nat)(w:World)(ans:Sum (Nat×Nat) (List UInt8×Tr))(e:Ending)(w':World):Prop :=
 match ans with
 | .inl q=>e=.returned (eH q.1 q.2)∧rH w' r base a cap Rs m∧dM r m (.slice a Rs.length cap) w w'
 | .inr q=>∃ a' cap' V,e=.returned (eH 0 0)∧V.tr=q.2∧rH w' r base a' cap' (Rs++[(q.1,V)]) m∧dM r m (.slice a Rs.length cap) w w'∧dY w (.slice a Rs.length cap) (.slice a' (Rs.length+1) cap')
theorem Ez{κ:Type}[DecidableEq κ]{k:κ}{z:Value}:∀ {kvs:List (κ×Value)},look k kvs=some z→∃ p∈kvs,p.2=z
 | [],h=>by rw[look] at h;cases h
 | p::r,h=>by
  rw[look] at h
  by_cases hk:k=p.1
  ·rw[if_pos hk] at h;exact⟨p,by simp,Option.some.inj h⟩
  ·rw[if_neg hk] at h
   obtain⟨q,h1,h2⟩:=Ez h
   exact⟨q,List.mem_cons_of_mem _ h1,h2⟩
theorem Iy.open{w w':World}{x:Tr}{e:Ending}(h:Iy w (.inr x) e w'):∃ k s a cap kids lo hi,e=.returned (.tuple #[.agg (aF k s a (List.length kids) cap lo hi).toArray,.agg #[.int .i64 0,.int .i64 0]])∧(Vt.mk k s a cap kids lo hi).tr=x∧Lies w' (.mk k s a cap kids lo hi)∧On (fun b=>w.heap.size≤b) (.mk k s a cap kids lo hi)∧Below w.heap.size w w':=by
 obtain⟨hb,⟨k,s,a,cap,kids,lo,hi⟩,h1,h2,h3,h4⟩:=h
 exact⟨k,s,a,cap,kids,lo,hi,h1,h2,h3,h4,hb⟩
theorem agk(N:Nat)(hN:N≤1099511627776)(r base:Nat)(a:Option Addr)(cap:Nat)(Rs:List (List UInt8×Vt))(m:Nat)(g:Nat×Nat)(n c:Nat)(s:List UInt8)(w:World)(h:rH w r base a cap Rs m)(hs:ak w (.slice (some ⟨g.1,g.2,none⟩) n c) 1 bQ s)(hn:n≤65536)(hRs:Rs.length≤64)
  (hg:g.1<w.heap.size) (hb:base≤w.heap.size) (ans:Sum (Nat×Nat) (List UInt8×Tr)) (hans:zJ N (Rs.map (·.1)) s=some ans) (hq:∀ q,ans=.inl q→q.2≤4611686018427387904) :
  Calls Tryz.prog 52 #[.pointer (some ⟨r,0,none⟩),.slice (some ⟨g.1,g.2,none⟩) n c] w (Yg r base a cap Rs m w ans):=by
 have hB0:=aj w (.cells #[.int .i64 0,.int .i64 0] 69)
 have h0:=h.kept hB0
 have hx0:=Box.new w #[.int .i64 0,.int .i64 0] 69
 have hs0:=hs.kept hB0
 have hhd:=agj r base a cap Rs m g n c s _ h0 hs0 (by omega)
 have hns:=hs.cellsA.1
 have hnc:=hs.cellsA.2.1
 have hc63:=hs.cellsA.2.2.1
 have hW0:(w.alloc (.cells #[.int .i64 0,.int .i64 0] 69)).heap.size=w.heap.size+1:=by simp
 rw[yh] at hans
 have H0:=ah h0
 have HS0:=ah hs0
 have HNS:=ah hns
 unfold aeX at hhd
 cases hp:sS (Rs.map (·.1)) s with
 | inl q =>
  rw[hp] at hans hhd
  obtain rfl:=Option.some.inj hans
  have hq0:=Tf hp
  have ek:((q.1:Int) != 0)=true:=by rw[bne_iff_ne];omega
  have HH:=ah hhd
  obtain⟨qk,qp⟩:=q
  have H:=ah h
  clear hans hhd hp h0 hs0 hs h hq0 hns hq
  dsimp only at HH ek
  go_enter Tryz.func52,Tryz.ntmps52
  go_wp2_with (first | (go_at_call 73;go_must (refine HH.out.mono ?_;rintro e w1 ⟨rfl,hb1⟩;have h1:=H0.out.kept hb1;have hx1:=hx0.kept hb1;have z0:=hx1.cell 0;have z1:=hx1.cell 1;have f0:=hx1.free 0;have f1:=hx1.free 1;have hz1:=hx1.lt;unfold eH)))
  have hB1:=hB0.trans (hb1.mono hB0.size)
  have hB2:=(hB1.setCell (p:=⟨w.heap.size,0,none⟩) (by simp) (.int .i64 qk)).setCell (p:=⟨w.heap.size,1,none⟩) (by simp) (.int .i64 qp)
  have hB3:=hB2.trans ((aj _ (.cells #[.int .i64 qk,.int .i64 qp] 69)).mono hB2.size)
  exact dn Tryz.results52 rfl (cs:=#[.int .i64 qk,.int .i64 qp]) (((hx1.set 0 _).set 1 _).alloc _) Tryz.underlying69 rfl eP rfl ⟨rfl,H.out.kept hB3,dM.below hB3⟩
 | inr nm =>
  rw[hp] at hans hhd
  dsimp only at hans hhd
  obtain⟨hnl,zf,rJ,hn32⟩:=Gu hp
  cases hpp:uj N (s.drop (nm.length+1)) with
  | none=>rw[hpp] at hans;cases hans
  | some P =>
   rw[hpp] at hans
   have apX:nm.length+1≤n:=by omega
   have hhi:(nm.length:Int)+1≤(n:Int):=by omega
   have hhi2:(n:Int)≤(c:Int):=by omega
   have lD:=ah hans
   have HQ:=ah hq
   have L9:=ah (show _∧_∧_ from⟨hnl,zf,rJ⟩)
   have HH:=ah hhd
   have H:=ah h
   have ahB:∀ p,P=.inl p→p.1≠0:=fun p e=>PK (by rw[←e];exact hpp)
   by_cases hcc:c=nm.length+1
   ·obtain rfl:n=nm.length+1:=by omega
    have hdr:s.drop (nm.length+1)=[]:=List.drop_eq_nil_of_le (by omega)
    rw[hdr] at hpp
    have htx:=fun u (hl:g.1<u.heap.size)=>L6 N hN g 0 0 [] u ⟨_,g.1,g.2,0,rfl,Nat.le_refl _,by simp[maxLen],.inl rfl,fun i hi=>by simp at hi⟩ hl P hpp
    have HT:=ah htx
    clear hhd htx h0 hs0 hs h hp hns hnl hc63 rJ zf hpp hans hq hdr
    subst hcc
    cases P with
    | inl p =>
     obtain⟨pk,pp⟩:=p
     have JV:=ahB _ rfl
     have ek:((pk:Int) != 0)=true:=by rw[bne_iff_ne];have:pk≠0:=JV;omega
     obtain rfl:=Option.some.inj lD.out
     have Mc:pp+(nm.length+1)≤4611686018427387904:=HQ.out _ rfl
     have CX:pp≤4611686018427387904:=by omega
     have HPL:=ah Mc
     clear JV Mc
     go_enter Tryz.func52,Tryz.ntmps52
     go_wp2_with (first | (go_at_call 73;go_must (refine HH.out.mono ?_;rintro e w1 ⟨rfl,hb1⟩;have h1:=H0.out.kept hb1;have hx1:=hx0.kept hb1;have z0:=hx1.cell 0;have z1:=hx1.cell 1;have f0:=hx1.free 0;have f1:=hx1.free 1;have hz1:=hx1.lt;unfold eH)) | (go_at_call 74;go_must (refine(HT.out _ (by have:=hb1.size;simp;omega)).mono ?_;rintro e w3 ⟨hb3,rfl⟩;have hx3:=(hx1.alloc (.cells #[.int .i64 0,.int .i64 0] 69)).kept hb3;have hy3:=(Box.new w1 #[.int .i64 0,.int .i64 0] 69).kept hb3;have l1:=hy3.lt;have l0:=hx3.lt;have y0:=hx3.cell 0;have y1:=hx3.cell 1;have g0:=hx3.free 0;have g1:=hx3.free 1;have q0:=hy3.cell 0;have q1:=hy3.cell 1;have r0:=hy3.free 0;have r1:=hy3.free 1;unfold eH)) | (with_reducible refine Stop.go (p:=wpList _ _ _ ({ dst:=some 37,op:=_,type:=_,pos:=_,after:=_,guard:=_ }::_) _ _) ?_))
     refine Stop.gen fun W hW=>?_
     have hzw:=hx1.lt
     have hBW:Below w.heap.size w W:=by
      have hB1:=hB0.trans (hb1.mono hB0.size)
      have hB2:=hB1.trans ((aj w1 (.cells #[.int .i64 0,.int .i64 0] 69)).mono hB1.size)
      have hB3:=hB2.trans (hb3.mono hB2.size)
      have hB4:=((hB3.setCell (p:=⟨w1.heap.size,0,none⟩) (Nat.le_of_lt hzw) (.int .i64 (pk:Nat))).setCell (p:=⟨w1.heap.size,1,none⟩) (Nat.le_of_lt hzw) (.int .i64 (pp:Nat))).setCell (p:=⟨w1.heap.size,1,none⟩) (Nat.le_of_lt hzw) (.int .i64 ((pp:Int)+((nm.length:Int)+1)))
      rw[hW]
      exact hB4.trans ((aj _ _).mono hB4.size)
     have hX:Box W w.heap.size #[.int .i64 0,.int .i64 0] 69:=by
      rw[hW]
      exact(((hx3.other ⟨w1.heap.size,0,none⟩ (.int .i64 (pk:Nat)) (by show w.heap.size≠w1.heap.size;omega)).other ⟨w1.heap.size,1,none⟩ (.int .i64 (pp:Nat)) (by show w.heap.size≠w1.heap.size;omega)).other ⟨w1.heap.size,1,none⟩ (.int .i64 ((pp:Int)+((nm.length:Int)+1))) (by show w.heap.size≠w1.heap.size;omega)).alloc _
     have hY:Box W w1.heap.size #[.int .i64 pk,.int .i64 ((pp:Int)+((nm.length:Int)+1))] 69:=by
      rw[hW]
      exact(((hy3.set 0 (.int .i64 (pk:Nat))).set 1 (.int .i64 (pp:Nat))).set 1 (.int .i64 ((pp:Int)+((nm.length:Int)+1)))).alloc _
     clear hW y0 y1 g0 g1 q0 q1 r0 r1 l0 l1 hx3 hy3 hb3 hx1 z0 z1 f0 f1 hz1
     have c0:=hX.cell 0
     have c1:=hX.cell 1
     have d0:=hX.free 0
     have d1:=hX.free 1
     have c2:=hY.cell 0
     have c3:=hY.cell 1
     go_wp2
     have lZ:=(hBW.setCell (p:=⟨w.heap.size,0,none⟩) (by simp) (.int .i64 (pk:Nat))).setCell (p:=⟨w.heap.size,1,none⟩) (by simp) (.int .i64 ((pp:Int)+((nm.length:Int)+1)))
     exact dn Tryz.results52 rfl (cs:=#[.int .i64 pk,.int .i64 ((pp:Int)+((nm.length:Int)+1))]) ((hX.set 0 _).set 1 _) Tryz.underlying69 rfl eP rfl ⟨by unfold eH;congr 5,H.out.kept lZ,dM.below lZ⟩
    | inr x =>
     obtain rfl:=Option.some.inj lD.out
     go_enter Tryz.func52,Tryz.ntmps52
     go_wp2_with (first | (go_at_call 73;go_must (refine HH.out.mono ?_;rintro e w1 ⟨rfl,hb1⟩;have h1:=H0.out.kept hb1;have hx1:=hx0.kept hb1;have z0:=hx1.cell 0;have z1:=hx1.cell 1;have f0:=hx1.free 0;have f1:=hx1.free 1;have hz1:=hx1.lt;unfold eH)) | (go_at_call 74;go_must (refine(HT.out _ (by have:=hb1.size;simp;omega)).mono ?_;intro e w3 htb;obtain⟨k5,s5,a5,cp5,bZ,cu,hi5,rfl,hV,hl3,qG,hb3⟩:=htb.open;have hx3:=(hx1.alloc (.cells #[.int .i64 0,.int .i64 0] 69)).kept hb3;have hy3:=(Box.new w1 #[.int .i64 0,.int .i64 0] 69).kept hb3;have l1:=hy3.lt;have l0:=hx3.lt;have y0:=hx3.cell 0;have y1:=hx3.cell 1;have g0:=hx3.free 0;have g1:=hx3.free 1;have q0:=hy3.cell 0;have q1:=hy3.cell 1;have r0:=hy3.free 0;have r1:=hy3.free 1;have HV:=ah hV;clear hV htb)) | (with_reducible refine Stop.go (p:=wpList _ _ _ ({ dst:=some 41,op:=_,type:=_,pos:=_,after:=_,guard:=_ }::_) _ _) ?_))
     refine Stop.gen fun W hW=>?_
     have hzw:=hx1.lt
     obtain⟨V,DL⟩:∃ V,Vt.mk k5 s5 a5 cp5 bZ cu hi5=V:=⟨_,rfl⟩
     have hB1:=hB0.trans (hb1.mono hB0.size)
     have hB2:=hB1.trans ((aj w1 (.cells #[.int .i64 0,.int .i64 0] 69)).mono hB1.size)
     have hB3:=hB2.trans (hb3.mono hB2.size)
     have hB4:=(hB3.setCell (p:=⟨w1.heap.size,0,none⟩) (Nat.le_of_lt hzw) (.int .i64 0)).setCell (p:=⟨w1.heap.size,1,none⟩) (Nat.le_of_lt hzw) (.int .i64 0)
     have hBW:Below w.heap.size w W:=by
      rw[hW]
      exact hB4.trans ((aj _ _).mono hB4.size)
     have hX:Box W w.heap.size #[.int .i64 0,.int .i64 0] 69:=by
      rw[hW]
      exact((hx3.other ⟨w1.heap.size,0,none⟩ (.int .i64 0) (by show w.heap.size≠w1.heap.size;omega)).other ⟨w1.heap.size,1,none⟩ (.int .i64 0) (by show w.heap.size≠w1.heap.size;omega)).alloc _
     have hY:Box W w3.heap.size (aF k5 s5 a5 bZ.length cp5 cu hi5).toArray 101:=by
      rw[hW]
      exact Box.new' (by simp) _ _
     have hlW:Lies W V:=by
      rw[hW,←DL]
      refine(hl3.eY qG fun b hb=>?_).kept (aj _ _)
      rw[World.size_alloc] at hb
      exact(heap_setCell_other _ ⟨w1.heap.size,1,none⟩ b _ (by show b≠w1.heap.size;omega)).trans (heap_setCell_other _ ⟨w1.heap.size,0,none⟩ b _ (by show b≠w1.heap.size;omega))
     have L8:On (fun b=>w.heap.size<b) V:=by
      rw[←DL]
      exact qG.mono fun b hb=>by rw[World.size_alloc] at hb;omega
     have hYV:Box W w3.heap.size V.cells.toArray 101:=by rw[←DL];exact hY
     have hcell:(aF k5 s5 a5 bZ.length cp5 cu hi5).toArray=V.cells.toArray:=by rw[←DL];rfl
     have Tj:=HV.out
     rw[DL] at Tj
     have hS:=H.out.kept hBW
     have hlt:=hS.lt
     obtain⟨W2,hput,hm2,ho2,hsz2,Gv⟩:=hS.map.sG mV Tryz.underlying87 nm (.bool true)
     obtain⟨hnl,zf,rJ⟩:=L9.out
     have hw3:=l0
     have Tm:Rs.length≠64:=by simpa using rJ
     clear hW y0 y1 g0 g1 q0 q1 r0 r1 l0 l1 hx3 hy3 hl3 qG hB4 hB3 hB2 hB1 hb3 z0 z1 f0 f1 hz1 hx1 HV hY DL
     have c0:=hS.box.cell 0
     have c1:=hS.box.cell 1
     have hol:∀ g,(Value.slice a Rs.length cap).ownBlock=some g→g<w.heap.size:=fun g hg=>(H.out.lC g hg).2
     have hb2:Box W2 r #[.slice a Rs.length cap,.map (some m)] 89:=(ho2 r hlt.2.2).trans hS.box
     have hown2:Own W2 base 103 9 jf (.slice a Rs.length cap) Rs:=hS.own.fF fun g hg=>ho2 g (by have:=(hS.lC g hg).1;omega)
     have I8:aO W2 m (fun s:List UInt8=>sv s) (vW (Rs++[(nm,V)])):=by
      rw[kX] at hm2
      ·rw[vW,List.map_append];exact hm2
      ·have:=AQ nm Rs
       rw[zf] at this
       cases hlk:look nm (vW Rs) with
       | none=>rfl
       | some z =>
        obtain⟨p,hp,hpe⟩:=Ez hlk
        rw[vW,List.mem_map] at hp
        obtain⟨q,_,rfl⟩:=hp
        rw[hlk] at this
        cases hpe
        cases this
     have hl2:∀ i (h:i<Rs.length),Lies W2 Rs[i].2:=fun i h=>(hS.lies i h).eY (hS.on i h) fun b hb=>ho2 b (by have:=hb.1;omega)
     have Ti:Lies W2 V:=hlW.eY L8 fun b hb=>ho2 b (by omega)
     have hX2:Box W2 w.heap.size #[.int .i64 0,.int .i64 0] 69:=(ho2 _ (by omega)).trans hX
     have hsw:=hBW.size
     have hwW:=hX.lt
     have Tn:Box W2 w3.heap.size (aF k5 s5 a5 bZ.length cp5 cu hi5).toArray 101:=(ho2 _ (by have:=hlt.2.1;omega)).trans (hcell▸hYV)
     have hk2:dM r m (.slice a Rs.length cap) w W2:=by
      have h1:=Gv m (Nat.le_refl _)
      exact⟨h1.os.trans hBW.os,h1.tape.trans hBW.tape,h1.output.trans hBW.output,Nat.le_trans hBW.size h1.size,fun b hb _ h2 _=>(ho2 b h2).trans (hBW.block b hb)⟩
     have HF:Hid (∀ u,Later W2.drew u→Box u r #[.slice a Rs.length cap,.map (some m)] 89∧Own u base 103 9 jf (.slice a Rs.length cap) Rs∧aO u m (fun s:List UInt8=>sv s) (vW (Rs++[(nm,V)]))∧(∀ i (h:i<Rs.length),Lies u Rs[i].2)∧Lies u V∧Box u w.heap.size #[.int .i64 0,.int .i64 0] 69∧Box u w3.heap.size (aF k5 s5 a5 bZ.length cp5 cu hi5).toArray 101∧dM r m (.slice a Rs.length cap) w u):=ah fun u hu=>by
      have hB:Below W2.heap.size W2 u:=((Below.refl _ W2).drew).trans hu
      exact⟨hb2.kept hB,hown2.kept hB,I8.kept hB,fun i h=>(hl2 i h).kept hB,Ti.kept hB,hX2.kept hB,Tn.kept hB,hk2.tr (dM.below hB)⟩
     have Jd:=ah hS.on
     have HHL:=ah hlt
     have HOV:=ah L8
     have HOL:=ah hol
     have aj3:Rs.length<64:=by have:=hRs;omega
     have Md:jf (nm,V)=sv nm::aF k5 s5 a5 bZ.length cp5 cu hi5:=by
      have:=congrArg Array.toList hcell
      exact congrArg (sv nm::·) this.symm
     have HEV:=ah Md
     have Me:=ah Tj
     have iG:=ah hBW
     clear hol hb2 hown2 I8 hl2 Ti hX2 hk2 hS hm2 Gv hlt L8 hlW hX hYV hcell hnl zf rJ Tm Md Tj
     go_wp2_with fail
     clear hput ho2 hsz2 c0 c1 Tn
     refine jC (R:=Later) [9,12] (by kernel_rfl) ?_
     refine Ee (T:=[9,12]) (i:=6) rfl (by kernel_rfl) (by kernel_rfl) (by kernel_rfl) (by kernel_rfl) (fun _ _ _ h=>h) (by rfl) (fun w1 hl=>iE 101 _ rfl _ rfl ((HF.out w1 hl).2.2.2.2.2.2.1) Tryz.underlying101 rfl ((by kernel_rfl))) ?_
     simp only[eA,eB,eC,Act.put,eD,eE,eF]
     refine pl [0,1,2,3] ?_
     repeat
      refine oP ?_ rfl (fun w1=>?_) ?_
      rotate_left
      ·go_simp;try with_reducible rfl
      simp only[eA,eB,eC,Act.put,eD,eE,eF]
     refine bP ?_
     refine Bv 4 ?_ rfl (fun w1 hl=>?_) ?_
     rotate_left
     ·obtain⟨hB0,_⟩:=HF.out w1 hl;have x0:=hB0.cell 0;have x1:=hB0.cell 1;go_simp;try with_reducible rfl
     simp only[eA,eB,eC,Act.put,eD,eE,eF]
     refine pl [5,7] ?_
     repeat
      refine oP ?_ rfl (fun w1=>?_) ?_
      rotate_left
      ·go_simp;try with_reducible rfl
      simp only[eA,eB,eC,Act.put,eD,eE,eF]
     refine bP ?_
     refine dD (T:=[9,12]) (i:=8) (by kernel_rfl) rfl (fun w1 hl K hK=>?_)
     go_simp
     refine hK.out _ _ (fun _=>aj _ _) ?_
     have hsl:=qR AP w1 103 [(nm,V)] (by simp[maxLen])
     rw[List.flatMap_cons,List.flatMap_nil,List.append_nil,HEV.out] at hsl
     have hlA:Later _ (w1.alloc (.cells (sv nm::aF k5 s5 a5 bZ.length cp5 cu hi5).toArray 103)):=Later.trans _ _ _ hl (aj _ _)
     clear hK K hl
     refine dD (T:=[9,12]) (i:=9) (by kernel_rfl) rfl (fun w1 hl K hK=>?_)
     obtain⟨e1,e2,e3,e4,e5,e6,_,e8⟩:=HF.out w1 (Later.trans _ _ _ hlA hl)
     have hnw:=FP (hsl.kept hl)
     have hsw:base≤w1.heap.size:=by have:=e8.size;omega
     clear hsl hl hlA
     refine gK (by rfl) ?_
     refine qg _ _ 67 rfl PG AP rfl e2 _ 1 ((nm,V):List UInt8×Vt) rfl hnw (by simp[maxLen];omega) (by omega) (by omega) ?_
     intro a' cap' w' hown' hg hfr
     refine hK.out _ _ (fun h=>absurd h (by decide)) ?_
     clear hK K hnw
     simp only[List.getElem_toArray,List.getElem_cons_zero,List.getElem_cons_succ,Act.put,List.setIfInBounds_toArray,List.set_cons_zero,List.set_cons_succ]
     have HP:=ah fun u (hu:Later w' u)=>WE e1 e2 e3 e4 Jd.out e5 HOV.out HOL.out e6 e8 HHL.out hb hown' hg hfr hu
     clear e1 e2 e3 e4 e5 e6 e8 hown' hg hfr hsw HF Jd
     refine pl [10,11] ?_
     repeat
      refine oP ?_ rfl (fun w1=>?_) ?_
      rotate_left
      ·go_simp;try with_reducible rfl
      simp only[eA,eB,eC,Act.put,eD,eE,eF]
     refine bP ?_
     refine dD (T:=[9,12]) (i:=12) (by kernel_rfl) rfl (fun w1 hl K hK=>?_)
     obtain⟨e1,e2,e3,e4,e5⟩:=HP.out w1 hl
     have x0:=e1.cell 0
     have f0:=e1.free 0
     go_simp
     refine hK.out _ _ (fun h=>absurd h (by decide)) ?_
     clear hK K x0 f0 e1 HP hl
     refine kP (by kernel_rfl) (fun w1 hl=>?_) _
     have e6:=e2.kept hl
     have e7:=e3.kept hl
     have e8:=e4.trans e5 (dM.below hl)
     have z0:=e7.cell 0
     have z1:=e7.cell 1
     have f0:=e7.free 0
     have f1:=e7.free 1
     clear e2 e3 e4 hl
     go_wp2
     have hon:eu w.heap.size w1 ((w1.setCell ⟨w.heap.size,0,none⟩ (.int .i64 0)).setCell ⟨w.heap.size,1,none⟩ (.int .i64 0)):=(jW _).trans _ _ _ (eu.set _ 0 _) (eu.set _ 1 _)
     have hln:(Rs++[(nm,V)]).length=Rs.length+1:=by simp
     have hRd:=e6.only hon hb (fun e=>by
      obtain⟨_,cc,hbx⟩:=e6.own.block _ e
      exact absurd (hbx.lS e7) (by decide)) (fun i hi=>by
      by_cases h:i<Rs.length
      ·rw[List.getElem_append_left h];exact(H.out.lies i h).on.mono fun b hb=>by omega
      ·have:i=Rs.length:=by rw[hln] at hi;omega
       subst this
       simp only[List.getElem_append_right (Nat.le_refl _),Nat.sub_self,List.getElem_cons_zero]
       exact HOV.out.mono fun b hb=>by omega)
     exact dn Tryz.results52 rfl (cs:=#[.int .i64 0,.int .i64 0]) ((e7.set 0 _).set 1 _) Tryz.underlying69 rfl eP rfl (show Yg r base a cap Rs m w (.inr (nm,x)) _ _ from⟨a',cap',V,rfl,Me.out,hRd,e8.only hon (Nat.le_refl _),e5⟩)
   ·have htx:=fun u (hu:ak u (.slice (some ⟨g.1,g.2,none⟩) n c) 1 bQ s) (hl:g.1<u.heap.size)=>L6 N hN (g.1,g.2+(nm.length+1)) (n - (nm.length+1)) (c - (nm.length+1)) (s.drop (nm.length+1)) u (by
     have:=ak.sub (f:=fun x:UInt8=>Value.int .u8 x.toNat) hu (nm.length+1) (n - (nm.length+1)) (by omega)
     rw[List.take_of_length_le (by rw[List.length_drop];omega)] at this
     unfold Ah at this
     rwa[if_neg hcc] at this) hl P hpp
    have HT:=ah htx
    clear hhd htx h0 hs0 hs h hp hns hnl hc63 rJ zf hpp hans hq
    cases P with
    | inl p =>
     obtain⟨pk,pp⟩:=p
     have JV:=ahB _ rfl
     have ek:((pk:Int) != 0)=true:=by rw[bne_iff_ne];have:pk≠0:=JV;omega
     obtain rfl:=Option.some.inj lD.out
     have Mc:pp+(nm.length+1)≤4611686018427387904:=HQ.out _ rfl
     have CX:pp≤4611686018427387904:=by omega
     have HPL:=ah Mc
     clear JV Mc
     go_enter Tryz.func52,Tryz.ntmps52
     go_wp2_with (first | (go_at_call 73;go_must (refine HH.out.mono ?_;rintro e w1 ⟨rfl,hb1⟩;have h1:=H0.out.kept hb1;have hx1:=hx0.kept hb1;have z0:=hx1.cell 0;have z1:=hx1.cell 1;have f0:=hx1.free 0;have f1:=hx1.free 1;have hz1:=hx1.lt;unfold eH)) | (go_at_call 74;go_must (refine(HT.out _ ((HS0.out.kept hb1).kept (aj _ _)) (by have:=hb1.size;simp;omega)).mono ?_;rintro e w3 ⟨hb3,rfl⟩;have hx3:=(hx1.alloc (.cells #[.int .i64 0,.int .i64 0] 69)).kept hb3;have hy3:=(Box.new w1 #[.int .i64 0,.int .i64 0] 69).kept hb3;have l1:=hy3.lt;have l0:=hx3.lt;have y0:=hx3.cell 0;have y1:=hx3.cell 1;have g0:=hx3.free 0;have g1:=hx3.free 1;have q0:=hy3.cell 0;have q1:=hy3.cell 1;have r0:=hy3.free 0;have r1:=hy3.free 1;unfold eH)) | (with_reducible refine Stop.go (p:=wpList _ _ _ ({ dst:=some 37,op:=_,type:=_,pos:=_,after:=_,guard:=_ }::_) _ _) ?_))
     refine Stop.gen fun W hW=>?_
     have hzw:=hx1.lt
     have hBW:Below w.heap.size w W:=by
      have hB1:=hB0.trans (hb1.mono hB0.size)
      have hB2:=hB1.trans ((aj w1 (.cells #[.int .i64 0,.int .i64 0] 69)).mono hB1.size)
      have hB3:=hB2.trans (hb3.mono hB2.size)
      have hB4:=((hB3.setCell (p:=⟨w1.heap.size,0,none⟩) (Nat.le_of_lt hzw) (.int .i64 (pk:Nat))).setCell (p:=⟨w1.heap.size,1,none⟩) (Nat.le_of_lt hzw) (.int .i64 (pp:Nat))).setCell (p:=⟨w1.heap.size,1,none⟩) (Nat.le_of_lt hzw) (.int .i64 ((pp:Int)+((nm.length:Int)+1)))
      rw[hW]
      exact hB4.trans ((aj _ _).mono hB4.size)
     have hX:Box W w.heap.size #[.int .i64 0,.int .i64 0] 69:=by
      rw[hW]
      exact(((hx3.other ⟨w1.heap.size,0,none⟩ (.int .i64 (pk:Nat)) (by show w.heap.size≠w1.heap.size;omega)).other ⟨w1.heap.size,1,none⟩ (.int .i64 (pp:Nat)) (by show w.heap.size≠w1.heap.size;omega)).other ⟨w1.heap.size,1,none⟩ (.int .i64 ((pp:Int)+((nm.length:Int)+1))) (by show w.heap.size≠w1.heap.size;omega)).alloc _
     have hY:Box W w1.heap.size #[.int .i64 pk,.int .i64 ((pp:Int)+((nm.length:Int)+1))] 69:=by
      rw[hW]
      exact(((hy3.set 0 (.int .i64 (pk:Nat))).set 1 (.int .i64 (pp:Nat))).set 1 (.int .i64 ((pp:Int)+((nm.length:Int)+1)))).alloc _
     clear hW y0 y1 g0 g1 q0 q1 r0 r1 l0 l1 hx3 hy3 hb3 hx1 z0 z1 f0 f1 hz1
     have c0:=hX.cell 0
     have c1:=hX.cell 1
     have d0:=hX.free 0
     have d1:=hX.free 1
     have c2:=hY.cell 0
     have c3:=hY.cell 1
     go_wp2
     have lZ:=(hBW.setCell (p:=⟨w.heap.size,0,none⟩) (by simp) (.int .i64 (pk:Nat))).setCell (p:=⟨w.heap.size,1,none⟩) (by simp) (.int .i64 ((pp:Int)+((nm.length:Int)+1)))
     exact dn Tryz.results52 rfl (cs:=#[.int .i64 pk,.int .i64 ((pp:Int)+((nm.length:Int)+1))]) ((hX.set 0 _).set 1 _) Tryz.underlying69 rfl eP rfl ⟨by unfold eH;congr 5,H.out.kept lZ,dM.below lZ⟩
    | inr x =>
     obtain rfl:=Option.some.inj lD.out
     go_enter Tryz.func52,Tryz.ntmps52
     go_wp2_with (first | (go_at_call 73;go_must (refine HH.out.mono ?_;rintro e w1 ⟨rfl,hb1⟩;have h1:=H0.out.kept hb1;have hx1:=hx0.kept hb1;have z0:=hx1.cell 0;have z1:=hx1.cell 1;have f0:=hx1.free 0;have f1:=hx1.free 1;have hz1:=hx1.lt;unfold eH)) | (go_at_call 74;go_must (refine(HT.out _ ((HS0.out.kept hb1).kept (aj _ _)) (by have:=hb1.size;simp;omega)).mono ?_;intro e w3 htb;obtain⟨k5,s5,a5,cp5,bZ,cu,hi5,rfl,hV,hl3,qG,hb3⟩:=htb.open;have hx3:=(hx1.alloc (.cells #[.int .i64 0,.int .i64 0] 69)).kept hb3;have hy3:=(Box.new w1 #[.int .i64 0,.int .i64 0] 69).kept hb3;have l1:=hy3.lt;have l0:=hx3.lt;have y0:=hx3.cell 0;have y1:=hx3.cell 1;have g0:=hx3.free 0;have g1:=hx3.free 1;have q0:=hy3.cell 0;have q1:=hy3.cell 1;have r0:=hy3.free 0;have r1:=hy3.free 1;have HV:=ah hV;clear hV htb)) | (with_reducible refine Stop.go (p:=wpList _ _ _ ({ dst:=some 41,op:=_,type:=_,pos:=_,after:=_,guard:=_ }::_) _ _) ?_))
     refine Stop.gen fun W hW=>?_
     have hzw:=hx1.lt
     obtain⟨V,DL⟩:∃ V,Vt.mk k5 s5 a5 cp5 bZ cu hi5=V:=⟨_,rfl⟩
     have hB1:=hB0.trans (hb1.mono hB0.size)
     have hB2:=hB1.trans ((aj w1 (.cells #[.int .i64 0,.int .i64 0] 69)).mono hB1.size)
     have hB3:=hB2.trans (hb3.mono hB2.size)
     have hB4:=(hB3.setCell (p:=⟨w1.heap.size,0,none⟩) (Nat.le_of_lt hzw) (.int .i64 0)).setCell (p:=⟨w1.heap.size,1,none⟩) (Nat.le_of_lt hzw) (.int .i64 0)
     have hBW:Below w.heap.size w W:=by
      rw[hW]
      exact hB4.trans ((aj _ _).mono hB4.size)
     have hX:Box W w.heap.size #[.int .i64 0,.int .i64 0] 69:=by
      rw[hW]
      exact((hx3.other ⟨w1.heap.size,0,none⟩ (.int .i64 0) (by show w.heap.size≠w1.heap.size;omega)).other ⟨w1.heap.size,1,none⟩ (.int .i64 0) (by show w.heap.size≠w1.heap.size;omega)).alloc _
     have hY:Box W w3.heap.size (aF k5 s5 a5 bZ.length cp5 cu hi5).toArray 101:=by
      rw[hW]
      exact Box.new' (by simp) _ _
     have hlW:Lies W V:=by
      rw[hW,←DL]
      refine(hl3.eY qG fun b hb=>?_).kept (aj _ _)
      rw[World.size_alloc] at hb
      exact(heap_setCell_other _ ⟨w1.heap.size,1,none⟩ b _ (by show b≠w1.heap.size;omega)).trans (heap_setCell_other _ ⟨w1.heap.size,0,none⟩ b _ (by show b≠w1.heap.size;omega))
     have L8:On (fun b=>w.heap.size<b) V:=by
      rw[←DL]
      exact qG.mono fun b hb=>by rw[World.size_alloc] at hb;omega
     have hYV:Box W w3.heap.size V.cells.toArray 101:=by rw[←DL];exact hY
     have hcell:(aF k5 s5 a5 bZ.length cp5 cu hi5).toArray=V.cells.toArray:=by rw[←DL];rfl
     have Tj:=HV.out
     rw[DL] at Tj
     have hS:=H.out.kept hBW
     have hlt:=hS.lt
     obtain⟨W2,hput,hm2,ho2,hsz2,Gv⟩:=hS.map.sG mV Tryz.underlying87 nm (.bool true)
     obtain⟨hnl,zf,rJ⟩:=L9.out
     have hw3:=l0
     have Tm:Rs.length≠64:=by simpa using rJ
     clear hW y0 y1 g0 g1 q0 q1 r0 r1 l0 l1 hx3 hy3 hl3 qG hB4 hB3 hB2 hB1 hb3 z0 z1 f0 f1 hz1 hx1 HV hY DL
     have c0:=hS.box.cell 0
     have c1:=hS.box.cell 1
     have hol:∀ g,(Value.slice a Rs.length cap).ownBlock=some g→g<w.heap.size:=fun g hg=>(H.out.lC g hg).2
     have hb2:Box W2 r #[.slice a Rs.length cap,.map (some m)] 89:=(ho2 r hlt.2.2).trans hS.box
     have hown2:Own W2 base 103 9 jf (.slice a Rs.length cap) Rs:=hS.own.fF fun g hg=>ho2 g (by have:=(hS.lC g hg).1;omega)
     have I8:aO W2 m (fun s:List UInt8=>sv s) (vW (Rs++[(nm,V)])):=by
      rw[kX] at hm2
      ·rw[vW,List.map_append];exact hm2
      ·have:=AQ nm Rs
       rw[zf] at this
       cases hlk:look nm (vW Rs) with
       | none=>rfl
       | some z =>
        obtain⟨p,hp,hpe⟩:=Ez hlk
        rw[vW,List.mem_map] at hp
        obtain⟨q,_,rfl⟩:=hp
        rw[hlk] at this
        cases hpe
        cases this
     have hl2:∀ i (h:i<Rs.length),Lies W2 Rs[i].2:=fun i h=>(hS.lies i h).eY (hS.on i h) fun b hb=>ho2 b (by have:=hb.1;omega)
     have Ti:Lies W2 V:=hlW.eY L8 fun b hb=>ho2 b (by omega)
     have hX2:Box W2 w.heap.size #[.int .i64 0,.int .i64 0] 69:=(ho2 _ (by omega)).trans hX
     have hsw:=hBW.size
     have hwW:=hX.lt
     have Tn:Box W2 w3.heap.size (aF k5 s5 a5 bZ.length cp5 cu hi5).toArray 101:=(ho2 _ (by have:=hlt.2.1;omega)).trans (hcell▸hYV)
     have hk2:dM r m (.slice a Rs.length cap) w W2:=by
      have h1:=Gv m (Nat.le_refl _)
      exact⟨h1.os.trans hBW.os,h1.tape.trans hBW.tape,h1.output.trans hBW.output,Nat.le_trans hBW.size h1.size,fun b hb _ h2 _=>(ho2 b h2).trans (hBW.block b hb)⟩
     have HF:Hid (∀ u,Later W2.drew u→Box u r #[.slice a Rs.length cap,.map (some m)] 89∧Own u base 103 9 jf (.slice a Rs.length cap) Rs∧aO u m (fun s:List UInt8=>sv s) (vW (Rs++[(nm,V)]))∧(∀ i (h:i<Rs.length),Lies u Rs[i].2)∧Lies u V∧Box u w.heap.size #[.int .i64 0,.int .i64 0] 69∧Box u w3.heap.size (aF k5 s5 a5 bZ.length cp5 cu hi5).toArray 101∧dM r m (.slice a Rs.length cap) w u):=ah fun u hu=>by
      have hB:Below W2.heap.size W2 u:=((Below.refl _ W2).drew).trans hu
      exact⟨hb2.kept hB,hown2.kept hB,I8.kept hB,fun i h=>(hl2 i h).kept hB,Ti.kept hB,hX2.kept hB,Tn.kept hB,hk2.tr (dM.below hB)⟩
     have Jd:=ah hS.on
     have HHL:=ah hlt
     have HOV:=ah L8
     have HOL:=ah hol
     have aj3:Rs.length<64:=by have:=hRs;omega
     have Md:jf (nm,V)=sv nm::aF k5 s5 a5 bZ.length cp5 cu hi5:=by
      have:=congrArg Array.toList hcell
      exact congrArg (sv nm::·) this.symm
     have HEV:=ah Md
     have Me:=ah Tj
     have iG:=ah hBW
     clear hol hb2 hown2 I8 hl2 Ti hX2 hk2 hS hm2 Gv hlt L8 hlW hX hYV hcell hnl zf rJ Tm Md Tj
     go_wp2_with fail
     clear hput ho2 hsz2 c0 c1 Tn
     refine jC (R:=Later) [9,12] (by kernel_rfl) ?_
     refine Ee (T:=[9,12]) (i:=6) rfl (by kernel_rfl) (by kernel_rfl) (by kernel_rfl) (by kernel_rfl) (fun _ _ _ h=>h) (by rfl) (fun w1 hl=>iE 101 _ rfl _ rfl ((HF.out w1 hl).2.2.2.2.2.2.1) Tryz.underlying101 rfl ((by kernel_rfl))) ?_
     simp only[eA,eB,eC,Act.put,eD,eE,eF]
     refine pl [0,1,2,3] ?_
     repeat
      refine oP ?_ rfl (fun w1=>?_) ?_
      rotate_left
      ·go_simp;try with_reducible rfl
      simp only[eA,eB,eC,Act.put,eD,eE,eF]
     refine bP ?_
     refine Bv 4 ?_ rfl (fun w1 hl=>?_) ?_
     rotate_left
     ·obtain⟨hB0,_⟩:=HF.out w1 hl;have x0:=hB0.cell 0;have x1:=hB0.cell 1;go_simp;try with_reducible rfl
     simp only[eA,eB,eC,Act.put,eD,eE,eF]
     refine pl [5,7] ?_
     repeat
      refine oP ?_ rfl (fun w1=>?_) ?_
      rotate_left
      ·go_simp;try with_reducible rfl
      simp only[eA,eB,eC,Act.put,eD,eE,eF]
     refine bP ?_
     refine dD (T:=[9,12]) (i:=8) (by kernel_rfl) rfl (fun w1 hl K hK=>?_)
     go_simp
     refine hK.out _ _ (fun _=>aj _ _) ?_
     have hsl:=qR AP w1 103 [(nm,V)] (by simp[maxLen])
     rw[List.flatMap_cons,List.flatMap_nil,List.append_nil,HEV.out] at hsl
     have hlA:Later _ (w1.alloc (.cells (sv nm::aF k5 s5 a5 bZ.length cp5 cu hi5).toArray 103)):=Later.trans _ _ _ hl (aj _ _)
     clear hK K hl
     refine dD (T:=[9,12]) (i:=9) (by kernel_rfl) rfl (fun w1 hl K hK=>?_)
     obtain⟨e1,e2,e3,e4,e5,e6,_,e8⟩:=HF.out w1 (Later.trans _ _ _ hlA hl)
     have hnw:=FP (hsl.kept hl)
     have hsw:base≤w1.heap.size:=by have:=e8.size;omega
     clear hsl hl hlA
     refine gK (by rfl) ?_
     refine qg _ _ 67 rfl PG AP rfl e2 _ 1 ((nm,V):List UInt8×Vt) rfl hnw (by simp[maxLen];omega) (by omega) (by omega) ?_
     intro a' cap' w' hown' hg hfr
     refine hK.out _ _ (fun h=>absurd h (by decide)) ?_
     clear hK K hnw
     simp only[List.getElem_toArray,List.getElem_cons_zero,List.getElem_cons_succ,Act.put,List.setIfInBounds_toArray,List.set_cons_zero,List.set_cons_succ]
     have HP:=ah fun u (hu:Later w' u)=>WE e1 e2 e3 e4 Jd.out e5 HOV.out HOL.out e6 e8 HHL.out hb hown' hg hfr hu
     clear e1 e2 e3 e4 e5 e6 e8 hown' hg hfr hsw HF Jd
     refine pl [10,11] ?_
     repeat
      refine oP ?_ rfl (fun w1=>?_) ?_
      rotate_left
      ·go_simp;try with_reducible rfl
      simp only[eA,eB,eC,Act.put,eD,eE,eF]
     refine bP ?_
     refine dD (T:=[9,12]) (i:=12) (by kernel_rfl) rfl (fun w1 hl K hK=>?_)
     obtain⟨e1,e2,e3,e4,e5⟩:=HP.out w1 hl
     have x0:=e1.cell 0
     have f0:=e1.free 0
     go_simp
     refine hK.out _ _ (fun h=>absurd h (by decide)) ?_
     clear hK K x0 f0 e1 HP hl
     refine kP (by kernel_rfl) (fun w1 hl=>?_) _
     have e6:=e2.kept hl
     have e7:=e3.kept hl
     have e8:=e4.trans e5 (dM.below hl)
     have z0:=e7.cell 0
     have z1:=e7.cell 1
     have f0:=e7.free 0
     have f1:=e7.free 1
     clear e2 e3 e4 hl
     go_wp2
     have hon:eu w.heap.size w1 ((w1.setCell ⟨w.heap.size,0,none⟩ (.int .i64 0)).setCell ⟨w.heap.size,1,none⟩ (.int .i64 0)):=(jW _).trans _ _ _ (eu.set _ 0 _) (eu.set _ 1 _)
     have hln:(Rs++[(nm,V)]).length=Rs.length+1:=by simp
     have hRd:=e6.only hon hb (fun e=>by
      obtain⟨_,cc,hbx⟩:=e6.own.block _ e
      exact absurd (hbx.lS e7) (by decide)) (fun i hi=>by
      by_cases h:i<Rs.length
      ·rw[List.getElem_append_left h];exact(H.out.lies i h).on.mono fun b hb=>by omega
      ·have:i=Rs.length:=by rw[hln] at hi;omega
       subst this
       simp only[List.getElem_append_right (Nat.le_refl _),Nat.sub_self,List.getElem_cons_zero]
       exact HOV.out.mono fun b hb=>by omega)
     exact dn Tryz.results52 rfl (cs:=#[.int .i64 0,.int .i64 0]) ((e7.set 0 _).set 1 _) Tryz.underlying69 rfl eP rfl (show Yg r base a cap Rs m w (.inr (nm,x)) _ _ from⟨a',cap',V,rfl,Me.out,hRd,e8.only hon (Nat.le_refl _),e5⟩)
end
end Go.Proofs.YtaoinbjjolikhaaGreatDoor
