/- The texts of T15, in few letters (mini.py). -/
import Derived.Test.YtbemonecmmnlcaaGreatDoorU14
set_option linter.unusedVariables false
set_option linter.unusedSimpArgs false
set_option maxRecDepth 20000
set_option maxHeartbeats 1600000
namespace Go.Proofs.YtbemonecmmnlcaaGreatDoor
section
open Go.RowKit
theorem Sv{have':List (List UInt8)}{s:List UInt8}{q:Nat×Nat}(h:tq have' s=.inl q):q.1≠0:=by
 unfold tq at h
 split at h;· cases h;simp
 split at h;· cases h;simp
 split at h;· cases h;simp
 split at h;· cases h;simp
 split at h;· cases h;simp
 cases h
theorem FZ{have':List (List UInt8)}{s nm:List UInt8}(h:tq have' s=.inr nm):nm.length+1≤s.length∧have'.contains nm=false∧have'.length≠64∧nm.length≤32:=by
 unfold tq at h
 split at h;· cases h
 rename_i h1
 split at h;· cases h
 split at h;· cases h
 rename_i h3
 split at h;· cases h
 rename_i h4
 split at h;· cases h
 rename_i h5
 cases h
 rw[Bool.not_eq_false] at h4
 unfold Bh at h4
 rw[Bool.and_eq_true,decide_eq_true_eq] at h4
 have:=h4.1
 refine⟨by rw[List.length_take];omega,by simpa using h5,h1,by rw[List.length_take];omega⟩
theorem agK:∀ n,(∀ d parts L q,jc n d parts L=some (.inl q)→q.1≠0)∧(∀ d parts L q,jJ n d parts L=some (.inl q)→q.1≠0)∧(∀ d L q,kY n d L=some (.inl q)→q.1≠0):=by
 intro n
 induction n with
 | zero=>exact⟨fun d p L q h=>(by rw[jc] at h;cases h),fun d p L q h=>(by rw[jJ] at h;cases h),fun d L q h=>(by rw[kY] at h;cases h)⟩
 | succ n ih =>
  refine⟨fun d parts L q h=>?_,fun d parts L q h=>?_,fun d L q h=>?_⟩
  ·rw[lQ] at h
   split at h
   ·cases h
   ·rename_i q' hq;cases h;exact ih.2.1 _ _ _ _ hq
   ·rename_i x r hx
    cases r with
    | nil=>cases h
    | cons a r =>
     by_cases h4:a.kind=4
     ·exact ih.1 _ _ _ _ ((if_pos h4).symm.trans h)
     ·have:=(if_neg h4).symm.trans h;cases this
  ·rw[jY] at h
   split at h
   ·cases h
   ·rename_i q' hq;cases h;exact ih.2.2 _ _ _ hq
   ·exact ih.2.1 _ _ _ _ h
   ·cases h
  ·cases L with
   | nil=>rw[vg] at h;cases h
   | cons a L =>
    rw[pJ] at h
    split at h;· cases h
    split at h
    ·unfold pX at h
     split at h
     ·cases h;simp
     ·cases hA:jc n (d+1) [] L with
      | none=>rw[hA] at h;cases h
      | some A =>
       rw[hA] at h
       cases A with
       | inl q'=>cases h;exact ih.1 _ _ _ _ hA
       | inr p =>
        obtain⟨x,R⟩:=p
        cases R with
        | nil=>cases h;simp
        | cons b R =>
         dsimp only at h
         split at h
         ·cases h
         ·cases h;simp
    split at h;· cases h;simp
    split at h;· cases h;simp
    cases h
theorem Ph{N:Nat}{l:List UInt8}{q:Nat×Nat}(h:uG N l=some (.inl q)):q.1≠0:=by
 rw[xX] at h
 cases hl:jM l with
 | inl q'=>rw[hl] at h;cases h;exact IX hl
 | inr L =>
  rw[hl] at h
  have h:Ah N L=some (.inl q):=h
  unfold Ah at h
  split at h
  ·cases h;simp
  ·cases hA:jc N 0 [] L with
   | none=>rw[hA] at h;cases h
   | some A =>
    rw[hA] at h
    cases A with
    | inl q'=>cases h;exact(agK N).1 _ _ _ _ hA
    | inr p=>cases h
structure dO(r m:Nat)(ov:Value)(w w':World):Prop where
 os:w'.os=w.os
 tape:w'.tape=w.tape
 output:w'.output=w.output
 size:w.heap.size≤w'.heap.size
 block:∀ b,b<w.heap.size→b≠r→b≠m→ov.ownBlock≠some b→w'.heap[b]?=w.heap[b]?
theorem dO.below{r m:Nat}{ov:Value}{w w':World}(h:Below w.heap.size w w'):dO r m ov w w':=⟨h.os,h.tape,h.output,h.size,fun b hb _ _ _=>h.block b hb⟩
theorem dO.trans{r m:Nat}{ov yI:Value}{a b c:World}(h:dO r m ov a b)(f:eU a ov yI)(k:dO r m yI b c):dO r m ov a c :=
 ⟨k.os.trans h.os,k.tape.trans h.tape,k.output.trans h.output,Nat.le_trans h.size k.size,fun x hx hr hm hg=>(k.block x (Nat.lt_of_lt_of_le hx h.size) hr hm (f.ne hx hg)).trans (h.block x hx hr hm hg)⟩
theorem dO.tr{r m:Nat}{ov:Value}{a b c:World}(h:dO r m ov a b)(k:dO r m ov b c):dO r m ov a c:=h.trans (eU.refl _ _) k
theorem dO.only{r m b:Nat}{ov:Value}{w0 w w':World}(k:dO r m ov w0 w)(h:fE b w w')(hb:w0.heap.size≤b):dO r m ov w0 w' :=
 ⟨h.os.trans k.os,h.tape.trans k.tape,h.output.trans k.output,Nat.le_trans k.size h.size,fun x hx h1 h2 h3=>(h.block x (Nat.lt_of_lt_of_le hx k.size) (by omega)).trans (k.block x hx h1 h2 h3)⟩
section
variable {w w':World} {r base:Nat} {a:Option Addr} {cap:Nat} {Rs:List (List UInt8×Vt)} {m:Nat}
theorem rG.lu(h:rG w r base a cap Rs m)(g:Nat)(hg:(Value.slice a Rs.length cap).ownBlock=some g):base≤g∧g<w.heap.size:=h.own.bC g hg
theorem rG.only(h:rG w r base a cap Rs m){b:Nat}(ho:fE b w w')(hb:base≤b)(hown:(Value.slice a Rs.length cap).ownBlock≠some b)(hon:∀ i (h:i<Rs.length),On (fun x=>x≠b) Rs[i].2):rG w' r base a cap Rs m:=by
 have hlt:=h.lt
 refine⟨ho.box h.box (by omega),h.own.bW fun g hg=>ho.block g (h.lu g hg).2 (fun e=>hown (e▸hg)),h.map.same (ho.block m h.map.lt (by omega)),fun i hi=>(h.lies i hi).fJ ((hon i hi).and (h.lies i hi).on) fun x hx=>ho.block x hx.2 hx.1,h.on,hlt⟩
theorem Wv{w0 w1 u:World}{nm:List UInt8}{V:Vt}{a':Option Addr}{cap':Nat}(hb:Box w1 r #[.slice a Rs.length cap,.map (some m)] 139)(hown:Own w1 base 153 9 iW (.slice a Rs.length cap) Rs)(hm:aK w1 m (fun s:List UInt8=>sv s) (wu (Rs++[(nm,V)])))
  (hl:∀ i (h:i<Rs.length),Lies w1 Rs[i].2) (hon:∀ i (h:i<Rs.length),On (fun b=>base≤b∧(Value.slice a Rs.length cap).ownBlock≠some b) Rs[i].2) (Sz:Lies w1 V) (LH:On (fun b=>w0.heap.size<b) V) (hol:∀ g,(Value.slice a Rs.length cap).ownBlock=some g→g<w0.heap.size)
  (hX:Box w1 w0.heap.size #[.int .i64 0,.int .i64 0] 88) (hk:dO r m (.slice a Rs.length cap) w0 w1) (hlt:r<base∧m<base∧r≠m) (hbw:base≤w0.heap.size)
  (ho:Own w' base 153 9 iW (.slice a' (Rs.length+1) cap') (Rs++[(nm,V)])) (hg:w1.grownBy w' (Value.slice a Rs.length cap).ownBlock) (hf:(Value.slice a' (Rs.length+1) cap').ownBlock=(Value.slice a Rs.length cap).ownBlock∨(Value.slice a' (Rs.length+1) cap').ownBlock=some w1.heap.size) (hu:Later w' u) :
  Box u r #[.slice a Rs.length cap,.map (some m)] 139∧rG (u.setCell ⟨r,0,none⟩ (.slice a' (Rs.length+1) cap')) r base a' cap' (Rs++[(nm,V)]) m∧Box (u.setCell ⟨r,0,none⟩ (.slice a' (Rs.length+1) cap')) w0.heap.size #[.int .i64 0,.int .i64 0] 88 ∧
  dO r m (.slice a Rs.length cap) w0 (u.setCell ⟨r,0,none⟩ (.slice a' (Rs.length+1) cap'))∧eU w0 (.slice a Rs.length cap) (.slice a' (Rs.length+1) cap'):=by
 have hs:=hk.size
 have hbl:∀ g,(Value.slice a Rs.length cap).ownBlock=some g→base≤g:=fun g hg=>(hown.bC g hg).1
 have k1:∀ b,b<w1.heap.size→(Value.slice a Rs.length cap).ownBlock≠some b→u.heap[b]?=w1.heap[b]?:=fun b h1 h2=>(hu.block b (Nat.lt_of_lt_of_le h1 hg.size)).trans (hg.block b h1 fun e=>h2 e.symm)
 have k2:∀ b,b<w1.heap.size→(Value.slice a Rs.length cap).ownBlock≠some b→b≠r→(u.setCell ⟨r,0,none⟩ (.slice a' (Rs.length+1) cap')).heap[b]?=w1.heap[b]?:=fun b h1 h2 h3=>(heap_setCell_other u ⟨r,0,none⟩ b _ h3).trans (k1 b h1 h2)
 have nb:∀ b,b<base→(Value.slice a Rs.length cap).ownBlock≠some b:=fun b h e=>by have:=hbl b e;omega
 have hbu:Box u r #[.slice a Rs.length cap,.map (some m)] 139:=(k1 r hb.lt (nb r hlt.1)).trans hb
 have hln:(Rs++[(nm,V)]).length=Rs.length+1:=by simp
 have tr:∀ X:Vt,Lies w1 X→On (fun b=>base≤b∧(Value.slice a Rs.length cap).ownBlock≠some b) X→Lies (u.setCell ⟨r,0,none⟩ (.slice a' (Rs.length+1) cap')) X∧On (fun b=>base≤b∧(Value.slice a' (Rs.length+1) cap').ownBlock≠some b) X:=fun X h1 h2=>by
  have h3:=h2.and h1.on
  refine⟨h1.fJ h3 fun b hb=>k2 b hb.2 hb.1.2 (by omega),h3.mono fun b ⟨⟨hb1,hb2⟩,hb3⟩=>⟨hb1,?_⟩⟩
  rcases hf with hf | hf
  ·rw[hf];exact hb2
  ·rw[hf];intro e;have:=Option.some.inj e;omega
 have hV:=tr V Sz (LH.mono fun b hb=>⟨by omega,fun e=>by have:=hol b e;omega⟩)
 refine⟨hbu,⟨by rw[hln];exact hbu.set 0 _,by rw[hln];exact(ho.kept hu).other _ _ hlt.1,hm.same (k2 m hm.lt (nb m hlt.2.1) (Ne.symm hlt.2.2)),fun i hi=>?_,fun i hi=>?_,hlt⟩,?_,⟨?_,?_,?_,?_,fun b h1 h2 h3 h4=>?_⟩,fun g e=>?_⟩
 ·by_cases h:i<Rs.length
  ·rw[List.getElem_append_left h];exact(tr _ (hl i h) (hon i h)).1
  ·have:i=Rs.length:=by rw[hln] at hi;omega
   subst this;simpa using hV.1
 ·rw[hln]
  by_cases h:i<Rs.length
  ·rw[List.getElem_append_left h];exact(tr _ (hl i h) (hon i h)).2
  ·have:i=Rs.length:=by rw[hln] at hi;omega
   subst this;simpa using hV.2
 ·exact(k2 _ hX.lt (fun e=>by have:=hol _ e;omega) (by omega)).trans hX
 ·exact hu.os.trans (hg.os.trans hk.os)
 ·exact hu.tape.trans (hg.tape.trans hk.tape)
 ·exact hu.output.trans (hg.output.trans hk.output)
 ·rw[World.size_setCell];exact Nat.le_trans hs (Nat.le_trans hg.size hu.size)
 ·exact(k2 b (by omega) h4 h2).trans (hk.block b h1 h2 h3 h4)
 ·rcases hf with hf | hf
  ·exact .inl (hf▸e)
  ·rw[hf] at e;exact .inr (by have:=Option.some.inj e;omega)
end
end
section
open Go.RowKit
theorem agL(r base:Nat)(a:Option Addr)(cap:Nat)(Rs:List (List UInt8×Vt))(m:Nat)(g:Nat×Nat)(n c:Nat)(s:List UInt8)(w:World)(h:rG w r base a cap Rs m)(hs:ak w (.slice (some ⟨g.1,g.2,none⟩) n c) 1 bf s)(hn:n≤4611686018427387904) :
  Calls Tryz.prog 138 #[.pointer (some ⟨r,0,none⟩),.slice (some ⟨g.1,g.2,none⟩) n c] w (aft w (tq (Rs.map (·.1)) s)):=by
 have hB0:=aj w (.cells #[.int .i64 0,.int .i64 0] 88)
 have h0:=h.kept hB0
 have hx0:=Box.new w #[.int .i64 0,.int .i64 0] 88
 have hrun:=aaf g.1 g.2 n c s _ (hs.kept hB0)
 have hC:=hs.cellsA
 obtain⟨hns,hnc,hc63,hCC⟩:=hC
 have HC:=ah hCC
 have HNS:=ah hns
 have hle:=vY true s
 have hconv:=fun u (hu:ak u (.slice (some ⟨g.1,g.2,none⟩) (runFrom true s) c) 1 bf (s.take (runFrom true s)))=>agJ (P:=Tryz.prog) (src:=35) (dst:=9) Tryz.underlying35 Tryz.underlying5 Tryz.underlying9 (by rw[List.length_take,Nat.min_eq_left hle]) hu
 have hlen:(Rs.map (·.1)).length=Rs.length:=by simp
 have hz:=O8
 unfold tq
 rw[hlen]
 generalize hk:runFrom true s=k at *
 have HR:=ah hrun
 have H0:=ah h0
 have HS:=ah hs
 have HCV:=ah hconv
 have hkn:k≤n:=by omega
 clear hrun h0 hs hCC hconv hlen h hns hk
 by_cases h1:Rs.length=64
 ·rw[if_pos h1]
  have e1:((Rs.length:Int)==64)=true:=by rw[h1];rfl
  clear h1
  go_enter Tryz.func138,Tryz.ntmps138
  go_wp2_with (go_at_call 174;go_must (refine HR.out.mono ?_;rintro e w1 ⟨rfl,hb1⟩;have h1:=H0.out.kept hb1;have hx1:=hx0.kept hb1;have x0:=h1.box.cell 0;have x1:=h1.box.cell 1;have z0:=hx1.cell 0;have z1:=hx1.cell 1;have f0:=hx1.free 0;have f1:=hx1.free 1))
  exact jr Tryz.results138 rfl rfl ((hx1.set 0 (.int .i64 18)).set 1 (.int .i64 0)) Tryz.underlying88 rfl fF rfl ⟨rfl,((hB0.trans (hb1.mono hB0.size)).setCell (p:=⟨w.heap.size,0,none⟩) (by simp) (.int .i64 18)).setCell (p:=⟨w.heap.size,1,none⟩) (by simp) (.int .i64 0)⟩
 rw[if_neg h1]
 have e1:((Rs.length:Int)==64)=false:=by rw[beq_eq_false_iff_ne];omega
 clear h1
 by_cases h2:k=0
 ·rw[if_pos h2]
  have e2:((k:Int)==0)=true:=by rw[h2];rfl
  clear h2
  go_enter Tryz.func138,Tryz.ntmps138
  go_wp2_with (go_at_call 174;go_must (refine HR.out.mono ?_;rintro e w1 ⟨rfl,hb1⟩;have h1:=H0.out.kept hb1;have hx1:=hx0.kept hb1;have x0:=h1.box.cell 0;have x1:=h1.box.cell 1;have z0:=hx1.cell 0;have z1:=hx1.cell 1;have f0:=hx1.free 0;have f1:=hx1.free 1))
  exact jr Tryz.results138 rfl rfl ((hx1.set 0 (.int .i64 9)).set 1 (.int .i64 0)) Tryz.underlying88 rfl fF rfl ⟨rfl,((hB0.trans (hb1.mono hB0.size)).setCell (p:=⟨w.heap.size,0,none⟩) (by simp) (.int .i64 9)).setCell (p:=⟨w.heap.size,1,none⟩) (by simp) (.int .i64 0)⟩
 rw[if_neg h2]
 have e2:((k:Int)==0)=false:=by rw[beq_eq_false_iff_ne];omega
 clear h2
 by_cases h3:32<k
 ·rw[if_pos h3]
  have e3:decide ((32:Int)<(k:Int))=true:=by simp;omega
  have e3':(32:Int)<(k:Int):=by omega
  clear h3
  go_enter Tryz.func138,Tryz.ntmps138
  go_wp2_with (go_at_call 174;go_must (refine HR.out.mono ?_;rintro e w1 ⟨rfl,hb1⟩;have h1:=H0.out.kept hb1;have hx1:=hx0.kept hb1;have x0:=h1.box.cell 0;have x1:=h1.box.cell 1;have z0:=hx1.cell 0;have z1:=hx1.cell 1;have f0:=hx1.free 0;have f1:=hx1.free 1))
  exact jr Tryz.results138 rfl rfl ((hx1.set 0 (.int .i64 9)).set 1 (.int .i64 32)) Tryz.underlying88 rfl fF rfl ⟨rfl,((hB0.trans (hb1.mono hB0.size)).setCell (p:=⟨w.heap.size,0,none⟩) (by simp) (.int .i64 9)).setCell (p:=⟨w.heap.size,1,none⟩) (by simp) (.int .i64 32)⟩
 rw[if_neg h3]
 have e3:decide ((32:Int)<(k:Int))=false:=by simp;omega
 clear h3
 by_cases h4:Bh s k 58=false
 ·rw[if_pos h4]
  by_cases h5:k=n
  ·have e4:((k:Int)==(n:Int))=true:=by rw[h5];simp
   clear h4 h5
   go_enter Tryz.func138,Tryz.ntmps138
   go_wp2_with (go_at_call 174;go_must (refine HR.out.mono ?_;rintro e w1 ⟨rfl,hb1⟩;have h1:=H0.out.kept hb1;have hx1:=hx0.kept hb1;have x0:=h1.box.cell 0;have x1:=h1.box.cell 1;have z0:=hx1.cell 0;have z1:=hx1.cell 1;have f0:=hx1.free 0;have f1:=hx1.free 1))
   exact jr Tryz.results138 rfl rfl ((hx1.set 0 (.int .i64 10)).set 1 (.int .i64 k)) Tryz.underlying88 rfl fF rfl ⟨rfl,((hB0.trans (hb1.mono hB0.size)).setCell (p:=⟨w.heap.size,0,none⟩) (by simp) (.int .i64 10)).setCell (p:=⟨w.heap.size,1,none⟩) (by simp) (.int .i64 k)⟩
  ·have e4:((k:Int)==(n:Int))=false:=by rw[beq_eq_false_iff_ne];omega
   have hks:k<s.length:=by rw[←HNS.out];omega
   have hy:=HC.out k hks
   have hne:((s[k].toNat:Int) != 58)=true:=by
    unfold Bh at h4
    rw[decide_eq_true hks,Bool.true_and,List.getD_eq_getElem?_getD,List.getElem?_eq_getElem hks,Option.getD_some,beq_eq_false_iff_ne] at h4
    rw[bne_iff_ne]
    intro e
    refine h4 ?_
    apply UInt8.toNat_inj.1
    have:s[k].toNat=58:=by omega
    rw[this];rfl
   generalize s[k]=x at *
   have HY:=ah hy
   have hki:(k:Int)<(n:Int):=by omega
   have hk0:(0:Int)≤(k:Int):=by omega
   clear h4 h5 hy hks
   go_enter Tryz.func138,Tryz.ntmps138
   go_wp2_with (go_at_call 174;go_must (refine HR.out.mono ?_;rintro e w1 ⟨rfl,hb1⟩;have h1:=H0.out.kept hb1;have hx1:=hx0.kept hb1;have x0:=h1.box.cell 0;have x1:=h1.box.cell 1;have z0:=hx1.cell 0;have z1:=hx1.cell 1;have f0:=hx1.free 0;have f1:=hx1.free 1;have y0:=HY.out w1 (hB0.trans (hb1.mono hB0.size))))
   exact jr Tryz.results138 rfl rfl ((hx1.set 0 (.int .i64 10)).set 1 (.int .i64 k)) Tryz.underlying88 rfl fF rfl ⟨rfl,((hB0.trans (hb1.mono hB0.size)).setCell (p:=⟨w.heap.size,0,none⟩) (by simp) (.int .i64 10)).setCell (p:=⟨w.heap.size,1,none⟩) (by simp) (.int .i64 k)⟩
 rw[if_neg h4]
 have hks:k<s.length:=by
  unfold Bh at h4
  rw[Bool.not_eq_false,Bool.and_eq_true,decide_eq_true_eq] at h4
  exact h4.1
 have e4:((k:Int)==(n:Int))=false:=by rw[beq_eq_false_iff_ne];have:=HNS.out;omega
 have hy:=HC.out k hks
 have hne:((s[k].toNat:Int) != 58)=false:=by
  unfold Bh at h4
  rw[Bool.not_eq_false,Bool.and_eq_true,List.getD_eq_getElem?_getD,List.getElem?_eq_getElem hks,Option.getD_some,beq_iff_eq] at h4
  rw[h4.2];rfl
 generalize s[k]=x at *
 have HY:=ah hy
 have hki:(k:Int)<(n:Int):=by have:=HNS.out;omega
 have hk0:(0:Int)≤(k:Int):=by omega
 have hkc:(k:Int)≤(c:Int):=by have:=HNS.out;omega
 have aro:IntKind.i64.wrap (k:Int)=(k:Int):=by rw[IntWalk.i64_in _ (by omega)]
 clear h4 hy hks
 cases h5:(Rs.map (·.1)).contains (s.take k) with
 | true =>
  rw[if_pos rfl]
  have HH:=ah h5
  clear h5
  go_enter Tryz.func138,Tryz.ntmps138
  go_wp2_with (go_at_call 174;go_must (refine HR.out.mono ?_;rintro e w1 ⟨rfl,hb1⟩;have h1:=H0.out.kept hb1;have hx1:=hx0.kept hb1;have x0:=h1.box.cell 0;have x1:=h1.box.cell 1;have z0:=hx1.cell 0;have z1:=hx1.cell 1;have f0:=hx1.free 0;have f1:=hx1.free 1;have y0:=HY.out w1 (hB0.trans (hb1.mono hB0.size));have hcv:=HCV.out w1 ((HS.out.kept (hB0.trans (hb1.mono hB0.size))).afs k (by omega));have hlk:=lJ h1.map mX Tryz.underlying137 (hz w1) (s.take k);rw[Am,HH.out] at hlk))
  exact jr Tryz.results138 rfl rfl ((hx1.set 0 (.int .i64 8)).set 1 (.int .i64 0)) Tryz.underlying88 rfl fF rfl ⟨rfl,((hB0.trans (hb1.mono hB0.size)).setCell (p:=⟨w.heap.size,0,none⟩) (by simp) (.int .i64 8)).setCell (p:=⟨w.heap.size,1,none⟩) (by simp) (.int .i64 0)⟩
 | false =>
  rw[if_neg (by simp)]
  have HH:=ah h5
  clear h5
  go_enter Tryz.func138,Tryz.ntmps138
  go_wp2_with (go_at_call 174;go_must (refine HR.out.mono ?_;rintro e w1 ⟨rfl,hb1⟩;have h1:=H0.out.kept hb1;have hx1:=hx0.kept hb1;have x0:=h1.box.cell 0;have x1:=h1.box.cell 1;have z0:=hx1.cell 0;have z1:=hx1.cell 1;have f0:=hx1.free 0;have f1:=hx1.free 1;have y0:=HY.out w1 (hB0.trans (hb1.mono hB0.size));have hcv:=HCV.out w1 ((HS.out.kept (hB0.trans (hb1.mono hB0.size))).afs k (by omega));have hlk:=lJ h1.map mX Tryz.underlying137 (hz w1) (s.take k);rw[Am,HH.out] at hlk))
  exact jr Tryz.results138 rfl rfl ((hx1.set 0 (.int .i64 0)).set 1 (.int .i64 0)) Tryz.underlying88 rfl fF rfl ⟨rfl,((hB0.trans (hb1.mono hB0.size)).setCell (p:=⟨w.heap.size,0,none⟩) (by simp) (.int .i64 0)).setCell (p:=⟨w.heap.size,1,none⟩) (by simp) (.int .i64 0)⟩
end
section
open Go.RowKit
def Stop(p:Prop):Prop:=p
theorem Stop.go{p:Prop}(h:Stop p):p:=h
theorem Stop.gen{P:Program}{ops:Array Oper}{l:List Oper}{Q:Exit→Act→World→Prop}{a:Act}{w:World}(h:∀ W,W=w→wpList P ops Q l a W):Stop (wpList P ops Q l a w):=h w rfl
def Yp(r base:Nat)(a:Option Addr)(cap:Nat)(Rs:List (List UInt8×Vt))(m:Nat)(w:World)(ans:Sum (Nat×Nat) (List UInt8×Tr))(e:Ending)(w':World):Prop :=
 match ans with
 | .inl q=>e=.returned (gQ q.1 q.2)∧rG w' r base a cap Rs m∧dO r m (.slice a Rs.length cap) w w'
 | .inr q=>∃ a' cap' V,e=.returned (gQ 0 0)∧V.tr=q.2∧rG w' r base a' cap' (Rs++[(q.1,V)]) m∧dO r m (.slice a Rs.length cap) w w'∧eU w (.slice a Rs.length cap) (.slice a' (Rs.length+1) cap')
theorem Ed{κ:Type}[DecidableEq κ]{k:κ}{z:Value}:∀ {kvs:List (κ×Value)},look k kvs=some z→∃ p∈kvs,p.2=z
 | [],h=>by rw[look] at h;cases h
 | p::r,h=>by
  rw[look] at h
  by_cases hk:k=p.1
  ·rw[if_pos hk] at h;exact⟨p,by simp,Option.some.inj h⟩
  ·rw[if_neg hk] at h
   obtain⟨q,h1,h2⟩:=Ed h
   exact⟨q,List.mem_cons_of_mem _ h1,h2⟩
theorem H8.open{w w':World}{x:Tr}{e:Ending}(h:H8 w (.inr x) e w'):∃ k s a cap kids lo hi,e=.returned (.tuple #[.agg (aC k s a (List.length kids) cap lo hi).toArray,.agg #[.int .i64 0,.int .i64 0]])∧(Vt.mk k s a cap kids lo hi).tr=x∧Lies w' (.mk k s a cap kids lo hi)∧On (fun b=>w.heap.size≤b) (.mk k s a cap kids lo hi)∧Below w.heap.size w w':=by
 obtain⟨hb,⟨k,s,a,cap,kids,lo,hi⟩,h1,h2,h3,h4⟩:=h
 exact⟨k,s,a,cap,kids,lo,hi,h1,h2,h3,h4,hb⟩
theorem agM(N:Nat)(hN:N≤1099511627776)(r base:Nat)(a:Option Addr)(cap:Nat)(Rs:List (List UInt8×Vt))(m:Nat)(g:Nat×Nat)(n c:Nat)(s:List UInt8)(w:World)(h:rG w r base a cap Rs m)(hs:ak w (.slice (some ⟨g.1,g.2,none⟩) n c) 1 bf s)(hn:n≤65536)(hRs:Rs.length≤64)
  (hg:g.1<w.heap.size) (hb:base≤w.heap.size) (Sr:II s) (ans:Sum (Nat×Nat) (List UInt8×Tr)) (hans:zF N (Rs.map (·.1)) s=some ans) (hq:∀ q,ans=.inl q→q.2≤4611686018427387904) :
  Calls Tryz.prog 98 #[.pointer (some ⟨r,0,none⟩),.slice (some ⟨g.1,g.2,none⟩) n c] w (Yp r base a cap Rs m w ans):=by
 have zk:=ah Sr
 clear Sr
 have hB0:=aj w (.cells #[.int .i64 0,.int .i64 0] 88)
 have h0:=h.kept hB0
 have hx0:=Box.new w #[.int .i64 0,.int .i64 0] 88
 have hs0:=hs.kept hB0
 have hhd:=agL r base a cap Rs m g n c s _ h0 hs0 (by omega)
 have hns:=hs.cellsA.1
 have hnc:=hs.cellsA.2.1
 have hc63:=hs.cellsA.2.2.1
 have hW0:(w.alloc (.cells #[.int .i64 0,.int .i64 0] 88)).heap.size=w.heap.size+1:=by simp
 rw[xY] at hans
 have H0:=ah h0
 have Pj:=ah hs0
 have HNS:=ah hns
 unfold aft at hhd
 cases hp:tq (Rs.map (·.1)) s with
 | inl q =>
  rw[hp] at hans hhd
  obtain rfl:=Option.some.inj hans
  have hq0:=Sv hp
  have ek:((q.1:Int) != 0)=true:=by rw[bne_iff_ne];omega
  have HH:=ah hhd
  obtain⟨qk,qp⟩:=q
  have H:=ah h
  clear hans hhd hp h0 hs0 hs h hq0 hns hq
  dsimp only at HH ek
  go_enter Tryz.func98,Tryz.ntmps98
  go_wp2_with (first | (go_at_call 138;go_must (refine HH.out.mono ?_;rintro e w1 ⟨rfl,hb1⟩;have h1:=H0.out.kept hb1;have hx1:=hx0.kept hb1;have z0:=hx1.cell 0;have z1:=hx1.cell 1;have f0:=hx1.free 0;have f1:=hx1.free 1;have hz1:=hx1.lt;unfold gQ)))
  have hB1:=hB0.trans (hb1.mono hB0.size)
  have hB2:=(hB1.setCell (p:=⟨w.heap.size,0,none⟩) (by simp) (.int .i64 qk)).setCell (p:=⟨w.heap.size,1,none⟩) (by simp) (.int .i64 qp)
  have hB3:=hB2.trans ((aj _ (.cells #[.int .i64 qk,.int .i64 qp] 88)).mono hB2.size)
  exact fU Tryz.results98 rfl (cs:=#[.int .i64 qk,.int .i64 qp]) (((hx1.set 0 _).set 1 _).alloc _) Tryz.underlying88 rfl fF rfl ⟨rfl,H.out.kept hB3,dO.below hB3⟩
 | inr nm =>
  rw[hp] at hans hhd
  dsimp only at hans hhd
  obtain⟨hnl,Ap,rH,hn32⟩:=FZ hp
  cases hpp:uG N (s.drop (nm.length+1)) with
  | none=>rw[hpp] at hans;cases hans
  | some P =>
   rw[hpp] at hans
   have arp:nm.length+1≤n:=by omega
   have hhi:(nm.length:Int)+1≤(n:Int):=by omega
   have hhi2:(n:Int)≤(c:Int):=by omega
   have lC:=ah hans
   have HQ:=ah hq
   have LJ:=ah (show _∧_∧_ from⟨hnl,Ap,rH⟩)
   have HH:=ah hhd
   have H:=ah h
   have ah2:∀ p,P=.inl p→p.1≠0:=fun p e=>Ph (by rw[←e];exact hpp)
   by_cases hcc:c=nm.length+1
   ·obtain rfl:n=nm.length+1:=by omega
    have hdr:s.drop (nm.length+1)=[]:=List.drop_eq_nil_of_le (by omega)
    rw[hdr] at hpp
    have htx:=fun u (hl:g.1<u.heap.size)=>LD N hN g 0 0 [] u ⟨_,g.1,g.2,0,rfl,Nat.le_refl _,by simp[maxLen],.inl rfl,fun i hi=>by simp at hi⟩ hl (zk.out.of fun b hb=>by cases hb) P hpp
    have HT:=ah htx
    clear hhd htx h0 hs0 hs h hp hns hnl hc63 rH Ap hpp hans hq hdr
    subst hcc
    cases P with
    | inl p =>
     obtain⟨pk,pp⟩:=p
     have JL:=ah2 _ rfl
     have ek:((pk:Int) != 0)=true:=by rw[bne_iff_ne];have:pk≠0:=JL;omega
     obtain rfl:=Option.some.inj lC.out
     have LK:pp+(nm.length+1)≤4611686018427387904:=HQ.out _ rfl
     have Cj:pp≤4611686018427387904:=by omega
     have HPL:=ah LK
     clear JL LK
     go_enter Tryz.func98,Tryz.ntmps98
     go_wp2_with (first | (go_at_call 138;go_must (refine HH.out.mono ?_;rintro e w1 ⟨rfl,hb1⟩;have h1:=H0.out.kept hb1;have hx1:=hx0.kept hb1;have z0:=hx1.cell 0;have z1:=hx1.cell 1;have f0:=hx1.free 0;have f1:=hx1.free 1;have hz1:=hx1.lt;unfold gQ)) | (go_at_call 139;go_must (refine(HT.out _ (by have:=hb1.size;simp;omega)).mono ?_;rintro e w3 ⟨hb3,rfl⟩;have hx3:=(hx1.alloc (.cells #[.int .i64 0,.int .i64 0] 88)).kept hb3;have hy3:=(Box.new w1 #[.int .i64 0,.int .i64 0] 88).kept hb3;have l1:=hy3.lt;have l0:=hx3.lt;have y0:=hx3.cell 0;have y1:=hx3.cell 1;have g0:=hx3.free 0;have g1:=hx3.free 1;have q0:=hy3.cell 0;have q1:=hy3.cell 1;have r0:=hy3.free 0;have r1:=hy3.free 1;unfold gQ)) | (with_reducible refine Stop.go (p:=wpList _ _ _ ({ dst:=some 37,op:=_,type:=_,pos:=_,after:=_,guard:=_ }::_) _ _) ?_))
     refine Stop.gen fun W hW=>?_
     have hzw:=hx1.lt
     have hBW:Below w.heap.size w W:=by
      have hB1:=hB0.trans (hb1.mono hB0.size)
      have hB2:=hB1.trans ((aj w1 (.cells #[.int .i64 0,.int .i64 0] 88)).mono hB1.size)
      have hB3:=hB2.trans (hb3.mono hB2.size)
      have hB4:=((hB3.setCell (p:=⟨w1.heap.size,0,none⟩) (Nat.le_of_lt hzw) (.int .i64 (pk:Nat))).setCell (p:=⟨w1.heap.size,1,none⟩) (Nat.le_of_lt hzw) (.int .i64 (pp:Nat))).setCell (p:=⟨w1.heap.size,1,none⟩) (Nat.le_of_lt hzw) (.int .i64 ((pp:Int)+((nm.length:Int)+1)))
      rw[hW]
      exact hB4.trans ((aj _ _).mono hB4.size)
     have hX:Box W w.heap.size #[.int .i64 0,.int .i64 0] 88:=by
      rw[hW]
      exact(((hx3.other ⟨w1.heap.size,0,none⟩ (.int .i64 (pk:Nat)) (by show w.heap.size≠w1.heap.size;omega)).other ⟨w1.heap.size,1,none⟩ (.int .i64 (pp:Nat)) (by show w.heap.size≠w1.heap.size;omega)).other ⟨w1.heap.size,1,none⟩ (.int .i64 ((pp:Int)+((nm.length:Int)+1))) (by show w.heap.size≠w1.heap.size;omega)).alloc _
     have hY:Box W w1.heap.size #[.int .i64 pk,.int .i64 ((pp:Int)+((nm.length:Int)+1))] 88:=by
      rw[hW]
      exact(((hy3.set 0 (.int .i64 (pk:Nat))).set 1 (.int .i64 (pp:Nat))).set 1 (.int .i64 ((pp:Int)+((nm.length:Int)+1)))).alloc _
     clear hW y0 y1 g0 g1 q0 q1 r0 r1 l0 l1 hx3 hy3 hb3 hx1 z0 z1 f0 f1 hz1
     have c0:=hX.cell 0
     have c1:=hX.cell 1
     have d0:=hX.free 0
     have d1:=hX.free 1
     have c2:=hY.cell 0
     have c3:=hY.cell 1
     go_wp2
     have jE:=(hBW.setCell (p:=⟨w.heap.size,0,none⟩) (by simp) (.int .i64 (pk:Nat))).setCell (p:=⟨w.heap.size,1,none⟩) (by simp) (.int .i64 ((pp:Int)+((nm.length:Int)+1)))
     exact fU Tryz.results98 rfl (cs:=#[.int .i64 pk,.int .i64 ((pp:Int)+((nm.length:Int)+1))]) ((hX.set 0 _).set 1 _) Tryz.underlying88 rfl fF rfl ⟨by unfold gQ;congr 5,H.out.kept jE,dO.below jE⟩
    | inr x =>
     obtain rfl:=Option.some.inj lC.out
     go_enter Tryz.func98,Tryz.ntmps98
     go_wp2_with (first | (go_at_call 138;go_must (refine HH.out.mono ?_;rintro e w1 ⟨rfl,hb1⟩;have h1:=H0.out.kept hb1;have hx1:=hx0.kept hb1;have z0:=hx1.cell 0;have z1:=hx1.cell 1;have f0:=hx1.free 0;have f1:=hx1.free 1;have hz1:=hx1.lt;unfold gQ)) | (go_at_call 139;go_must (refine(HT.out _ (by have:=hb1.size;simp;omega)).mono ?_;intro e w3 htb;obtain⟨k5,s5,a5,cp5,cZ,dh,hi5,rfl,hV,hl3,qH,hb3⟩:=htb.open;have hx3:=(hx1.alloc (.cells #[.int .i64 0,.int .i64 0] 88)).kept hb3;have hy3:=(Box.new w1 #[.int .i64 0,.int .i64 0] 88).kept hb3;have l1:=hy3.lt;have l0:=hx3.lt;have y0:=hx3.cell 0;have y1:=hx3.cell 1;have g0:=hx3.free 0;have g1:=hx3.free 1;have q0:=hy3.cell 0;have q1:=hy3.cell 1;have r0:=hy3.free 0;have r1:=hy3.free 1;have HV:=ah hV;clear hV htb)) | (with_reducible refine Stop.go (p:=wpList _ _ _ ({ dst:=some 41,op:=_,type:=_,pos:=_,after:=_,guard:=_ }::_) _ _) ?_))
     refine Stop.gen fun W hW=>?_
     have hzw:=hx1.lt
     obtain⟨V,Dn⟩:∃ V,Vt.mk k5 s5 a5 cp5 cZ dh hi5=V:=⟨_,rfl⟩
     have hB1:=hB0.trans (hb1.mono hB0.size)
     have hB2:=hB1.trans ((aj w1 (.cells #[.int .i64 0,.int .i64 0] 88)).mono hB1.size)
     have hB3:=hB2.trans (hb3.mono hB2.size)
     have hB4:=(hB3.setCell (p:=⟨w1.heap.size,0,none⟩) (Nat.le_of_lt hzw) (.int .i64 0)).setCell (p:=⟨w1.heap.size,1,none⟩) (Nat.le_of_lt hzw) (.int .i64 0)
     have hBW:Below w.heap.size w W:=by
      rw[hW]
      exact hB4.trans ((aj _ _).mono hB4.size)
     have hX:Box W w.heap.size #[.int .i64 0,.int .i64 0] 88:=by
      rw[hW]
      exact((hx3.other ⟨w1.heap.size,0,none⟩ (.int .i64 0) (by show w.heap.size≠w1.heap.size;omega)).other ⟨w1.heap.size,1,none⟩ (.int .i64 0) (by show w.heap.size≠w1.heap.size;omega)).alloc _
     have hY:Box W w3.heap.size (aC k5 s5 a5 cZ.length cp5 dh hi5).toArray 151:=by
      rw[hW]
      exact Box.new' (by simp) _ _
     have hlW:Lies W V:=by
      rw[hW,←Dn]
      refine(hl3.fJ qH fun b hb=>?_).kept (aj _ _)
      rw[World.size_alloc] at hb
      exact(heap_setCell_other _ ⟨w1.heap.size,1,none⟩ b _ (by show b≠w1.heap.size;omega)).trans (heap_setCell_other _ ⟨w1.heap.size,0,none⟩ b _ (by show b≠w1.heap.size;omega))
     have LH:On (fun b=>w.heap.size<b) V:=by
      rw[←Dn]
      exact qH.mono fun b hb=>by rw[World.size_alloc] at hb;omega
     have hYV:Box W w3.heap.size V.cells.toArray 151:=by rw[←Dn];exact hY
     have hcell:(aC k5 s5 a5 cZ.length cp5 dh hi5).toArray=V.cells.toArray:=by rw[←Dn];rfl
     have SA:=HV.out
     rw[Dn] at SA
     have hS:=H.out.kept hBW
     have hlt:=hS.lt
     obtain⟨W2,hput,hm2,ho2,hsz2,F5⟩:=hS.map.sN mX Tryz.underlying137 nm (.bool true)
     obtain⟨hnl,Ap,rH⟩:=LJ.out
     have hw3:=l0
     have SB:Rs.length≠64:=by simpa using rH
     clear hW y0 y1 g0 g1 q0 q1 r0 r1 l0 l1 hx3 hy3 hl3 qH hB4 hB3 hB2 hB1 hb3 z0 z1 f0 f1 hz1 hx1 HV hY Dn
     have c0:=hS.box.cell 0
     have c1:=hS.box.cell 1
     have hol:∀ g,(Value.slice a Rs.length cap).ownBlock=some g→g<w.heap.size:=fun g hg=>(H.out.lu g hg).2
     have hb2:Box W2 r #[.slice a Rs.length cap,.map (some m)] 139:=(ho2 r hlt.2.2).trans hS.box
     have hown2:Own W2 base 153 9 iW (.slice a Rs.length cap) Rs:=hS.own.bW fun g hg=>ho2 g (by have:=(hS.lu g hg).1;omega)
     have LM:aK W2 m (fun s:List UInt8=>sv s) (wu (Rs++[(nm,V)])):=by
      rw[kV] at hm2
      ·rw[wu,List.map_append];exact hm2
      ·have:=Am nm Rs
       rw[Ap] at this
       cases hlk:look nm (wu Rs) with
       | none=>rfl
       | some z =>
        obtain⟨p,hp,hpe⟩:=Ed hlk
        rw[wu,List.mem_map] at hp
        obtain⟨q,_,rfl⟩:=hp
        rw[hlk] at this
        cases hpe
        cases this
     have hl2:∀ i (h:i<Rs.length),Lies W2 Rs[i].2:=fun i h=>(hS.lies i h).fJ (hS.on i h) fun b hb=>ho2 b (by have:=hb.1;omega)
     have Sz:Lies W2 V:=hlW.fJ LH fun b hb=>ho2 b (by omega)
     have hX2:Box W2 w.heap.size #[.int .i64 0,.int .i64 0] 88:=(ho2 _ (by omega)).trans hX
     have hsw:=hBW.size
     have hwW:=hX.lt
     have SC:Box W2 w3.heap.size (aC k5 s5 a5 cZ.length cp5 dh hi5).toArray 151:=(ho2 _ (by have:=hlt.2.1;omega)).trans (hcell▸hYV)
     have hk2:dO r m (.slice a Rs.length cap) w W2:=by
      have h1:=F5 m (Nat.le_refl _)
      exact⟨h1.os.trans hBW.os,h1.tape.trans hBW.tape,h1.output.trans hBW.output,Nat.le_trans hBW.size h1.size,fun b hb _ h2 _=>(ho2 b h2).trans (hBW.block b hb)⟩
     have HF:Hid (∀ u,Later W2.drew u→Box u r #[.slice a Rs.length cap,.map (some m)] 139∧Own u base 153 9 iW (.slice a Rs.length cap) Rs∧aK u m (fun s:List UInt8=>sv s) (wu (Rs++[(nm,V)]))∧(∀ i (h:i<Rs.length),Lies u Rs[i].2)∧Lies u V∧Box u w.heap.size #[.int .i64 0,.int .i64 0] 88∧Box u w3.heap.size (aC k5 s5 a5 cZ.length cp5 dh hi5).toArray 151∧dO r m (.slice a Rs.length cap) w u):=ah fun u hu=>by
      have hB:Below W2.heap.size W2 u:=((Below.refl _ W2).drew).trans hu
      exact⟨hb2.kept hB,hown2.kept hB,LM.kept hB,fun i h=>(hl2 i h).kept hB,Sz.kept hB,hX2.kept hB,SC.kept hB,hk2.tr (dO.below hB)⟩
     have IZ:=ah hS.on
     have HHL:=ah hlt
     have SE:=ah LH
     have HOL:=ah hol
     have akX:Rs.length<64:=by have:=hRs;omega
     have LP:iW (nm,V)=sv nm::aC k5 s5 a5 cZ.length cp5 dh hi5:=by
      have:=congrArg Array.toList hcell
      exact congrArg (sv nm::·) this.symm
     have HEV:=ah LP
     have LQ:=ah SA
     have gG:=ah hBW
     clear hol hb2 hown2 LM hl2 Sz hX2 hk2 hS hm2 F5 hlt LH hlW hX hYV hcell hnl Ap rH SB LP SA
     go_wp2_with fail
     clear hput ho2 hsz2 c0 c1 SC
     refine jq (R:=Later) [9,12] (by kernel_rfl) ?_
     refine DX (T:=[9,12]) (i:=6) rfl (by kernel_rfl) (by kernel_rfl) (by kernel_rfl) (by kernel_rfl) (fun _ _ _ h=>h) (by rfl) (fun w1 hl=>fM 151 _ rfl _ rfl ((HF.out w1 hl).2.2.2.2.2.2.1) Tryz.underlying151 rfl ((by kernel_rfl))) ?_
     simp only[eA,eB,eC,Act.put,eD,eE,eF]
     refine pl [0,1,2,3] ?_
     repeat
      refine qV ?_ rfl (fun w1=>?_) ?_
      rotate_left
      ·go_simp;try with_reducible rfl
      simp only[eA,eB,eC,Act.put,eD,eE,eF]
     refine dI ?_
     refine EJ 4 ?_ rfl (fun w1 hl=>?_) ?_
     rotate_left
     ·obtain⟨hB0,_⟩:=HF.out w1 hl;have x0:=hB0.cell 0;have x1:=hB0.cell 1;go_simp;try with_reducible rfl
     simp only[eA,eB,eC,Act.put,eD,eE,eF]
     refine pl [5,7] ?_
     repeat
      refine qV ?_ rfl (fun w1=>?_) ?_
      rotate_left
      ·go_simp;try with_reducible rfl
      simp only[eA,eB,eC,Act.put,eD,eE,eF]
     refine dI ?_
     refine fH (T:=[9,12]) (i:=8) (by kernel_rfl) rfl (fun w1 hl K hK=>?_)
     go_simp
     refine hK.out _ _ (fun _=>aj _ _) ?_
     have hsl:=pR Ak w1 153 [(nm,V)] (by simp[maxLen])
     rw[List.flatMap_cons,List.flatMap_nil,List.append_nil,HEV.out] at hsl
     have hlA:Later _ (w1.alloc (.cells (sv nm::aC k5 s5 a5 cZ.length cp5 dh hi5).toArray 153)):=Later.trans _ _ _ hl (aj _ _)
     clear hK K hl
     refine fH (T:=[9,12]) (i:=9) (by kernel_rfl) rfl (fun w1 hl K hK=>?_)
     obtain⟨e1,e2,e3,e4,e5,e6,_,e8⟩:=HF.out w1 (Later.trans _ _ _ hlA hl)
     have hnw:=C9 (hsl.kept hl)
     have hsw:base≤w1.heap.size:=by have:=e8.size;omega
     clear hsl hl hlA
     refine dD (by rfl) ?_
     refine nN _ _ 86 rfl O7 Ak rfl e2 _ 1 ((nm,V):List UInt8×Vt) rfl hnw (by simp[maxLen];omega) (by omega) (by omega) ?_
     intro a' cap' w' hown' hg hfr
     refine hK.out _ _ (fun h=>absurd h (by decide)) ?_
     clear hK K hnw
     simp only[List.getElem_toArray,List.getElem_cons_zero,List.getElem_cons_succ,Act.put,List.setIfInBounds_toArray,List.set_cons_zero,List.set_cons_succ]
     have HP:=ah fun u (hu:Later w' u)=>Wv e1 e2 e3 e4 IZ.out e5 SE.out HOL.out e6 e8 HHL.out hb hown' hg hfr hu
     clear e1 e2 e3 e4 e5 e6 e8 hown' hg hfr hsw HF IZ
     refine pl [10,11] ?_
     repeat
      refine qV ?_ rfl (fun w1=>?_) ?_
      rotate_left
      ·go_simp;try with_reducible rfl
      simp only[eA,eB,eC,Act.put,eD,eE,eF]
     refine dI ?_
     refine fH (T:=[9,12]) (i:=12) (by kernel_rfl) rfl (fun w1 hl K hK=>?_)
     obtain⟨e1,e2,e3,e4,e5⟩:=HP.out w1 hl
     have x0:=e1.cell 0
     have f0:=e1.free 0
     go_simp
     refine hK.out _ _ (fun h=>absurd h (by decide)) ?_
     clear hK K x0 f0 e1 HP hl
     refine nK (by kernel_rfl) (fun w1 hl=>?_) _
     have e6:=e2.kept hl
     have e7:=e3.kept hl
     have e8:=e4.trans e5 (dO.below hl)
     have z0:=e7.cell 0
     have z1:=e7.cell 1
     have f0:=e7.free 0
     have f1:=e7.free 1
     clear e2 e3 e4 hl
     go_wp2
     have hon:fE w.heap.size w1 ((w1.setCell ⟨w.heap.size,0,none⟩ (.int .i64 0)).setCell ⟨w.heap.size,1,none⟩ (.int .i64 0)):=(jT _).trans _ _ _ (fE.set _ 0 _) (fE.set _ 1 _)
     have hln:(Rs++[(nm,V)]).length=Rs.length+1:=by simp
     have hRd:=e6.only hon hb (fun e=>by
      obtain⟨_,cc,hbx⟩:=e6.own.block _ e
      exact absurd (hbx.kK e7) (by decide)) (fun i hi=>by
      by_cases h:i<Rs.length
      ·rw[List.getElem_append_left h];exact(H.out.lies i h).on.mono fun b hb=>by omega
      ·have:i=Rs.length:=by rw[hln] at hi;omega
       subst this
       simp only[List.getElem_append_right (Nat.le_refl _),Nat.sub_self,List.getElem_cons_zero]
       exact SE.out.mono fun b hb=>by omega)
     exact fU Tryz.results98 rfl (cs:=#[.int .i64 0,.int .i64 0]) ((e7.set 0 _).set 1 _) Tryz.underlying88 rfl fF rfl (show Yp r base a cap Rs m w (.inr (nm,x)) _ _ from⟨a',cap',V,rfl,LQ.out,hRd,e8.only hon (Nat.le_refl _),e5⟩)
   ·have htx:=fun u (hu:ak u (.slice (some ⟨g.1,g.2,none⟩) n c) 1 bf s) (hl:g.1<u.heap.size)=>LD N hN (g.1,g.2+(nm.length+1)) (n - (nm.length+1)) (c - (nm.length+1)) (s.drop (nm.length+1)) u (by
     have:=ak.sub (f:=fun x:UInt8=>Value.int .u8 x.toNat) hu (nm.length+1) (n - (nm.length+1)) (by omega)
     rw[List.take_of_length_le (by rw[List.length_drop];omega)] at this
     unfold Ci at this
     rwa[if_neg hcc] at this) hl (zk.out.of fun b hb=>List.mem_of_mem_drop hb) P hpp
    have HT:=ah htx
    clear hhd htx h0 hs0 hs h hp hns hnl hc63 rH Ap hpp hans hq
    cases P with
    | inl p =>
     obtain⟨pk,pp⟩:=p
     have JL:=ah2 _ rfl
     have ek:((pk:Int) != 0)=true:=by rw[bne_iff_ne];have:pk≠0:=JL;omega
     obtain rfl:=Option.some.inj lC.out
     have LK:pp+(nm.length+1)≤4611686018427387904:=HQ.out _ rfl
     have Cj:pp≤4611686018427387904:=by omega
     have HPL:=ah LK
     clear JL LK
     go_enter Tryz.func98,Tryz.ntmps98
     go_wp2_with (first | (go_at_call 138;go_must (refine HH.out.mono ?_;rintro e w1 ⟨rfl,hb1⟩;have h1:=H0.out.kept hb1;have hx1:=hx0.kept hb1;have z0:=hx1.cell 0;have z1:=hx1.cell 1;have f0:=hx1.free 0;have f1:=hx1.free 1;have hz1:=hx1.lt;unfold gQ)) | (go_at_call 139;go_must (refine(HT.out _ ((Pj.out.kept hb1).kept (aj _ _)) (by have:=hb1.size;simp;omega)).mono ?_;rintro e w3 ⟨hb3,rfl⟩;have hx3:=(hx1.alloc (.cells #[.int .i64 0,.int .i64 0] 88)).kept hb3;have hy3:=(Box.new w1 #[.int .i64 0,.int .i64 0] 88).kept hb3;have l1:=hy3.lt;have l0:=hx3.lt;have y0:=hx3.cell 0;have y1:=hx3.cell 1;have g0:=hx3.free 0;have g1:=hx3.free 1;have q0:=hy3.cell 0;have q1:=hy3.cell 1;have r0:=hy3.free 0;have r1:=hy3.free 1;unfold gQ)) | (with_reducible refine Stop.go (p:=wpList _ _ _ ({ dst:=some 37,op:=_,type:=_,pos:=_,after:=_,guard:=_ }::_) _ _) ?_))
     refine Stop.gen fun W hW=>?_
     have hzw:=hx1.lt
     have hBW:Below w.heap.size w W:=by
      have hB1:=hB0.trans (hb1.mono hB0.size)
      have hB2:=hB1.trans ((aj w1 (.cells #[.int .i64 0,.int .i64 0] 88)).mono hB1.size)
      have hB3:=hB2.trans (hb3.mono hB2.size)
      have hB4:=((hB3.setCell (p:=⟨w1.heap.size,0,none⟩) (Nat.le_of_lt hzw) (.int .i64 (pk:Nat))).setCell (p:=⟨w1.heap.size,1,none⟩) (Nat.le_of_lt hzw) (.int .i64 (pp:Nat))).setCell (p:=⟨w1.heap.size,1,none⟩) (Nat.le_of_lt hzw) (.int .i64 ((pp:Int)+((nm.length:Int)+1)))
      rw[hW]
      exact hB4.trans ((aj _ _).mono hB4.size)
     have hX:Box W w.heap.size #[.int .i64 0,.int .i64 0] 88:=by
      rw[hW]
      exact(((hx3.other ⟨w1.heap.size,0,none⟩ (.int .i64 (pk:Nat)) (by show w.heap.size≠w1.heap.size;omega)).other ⟨w1.heap.size,1,none⟩ (.int .i64 (pp:Nat)) (by show w.heap.size≠w1.heap.size;omega)).other ⟨w1.heap.size,1,none⟩ (.int .i64 ((pp:Int)+((nm.length:Int)+1))) (by show w.heap.size≠w1.heap.size;omega)).alloc _
     have hY:Box W w1.heap.size #[.int .i64 pk,.int .i64 ((pp:Int)+((nm.length:Int)+1))] 88:=by
      rw[hW]
      exact(((hy3.set 0 (.int .i64 (pk:Nat))).set 1 (.int .i64 (pp:Nat))).set 1 (.int .i64 ((pp:Int)+((nm.length:Int)+1)))).alloc _
     clear hW y0 y1 g0 g1 q0 q1 r0 r1 l0 l1 hx3 hy3 hb3 hx1 z0 z1 f0 f1 hz1
     have c0:=hX.cell 0
     have c1:=hX.cell 1
     have d0:=hX.free 0
     have d1:=hX.free 1
     have c2:=hY.cell 0
     have c3:=hY.cell 1
     go_wp2
     have jE:=(hBW.setCell (p:=⟨w.heap.size,0,none⟩) (by simp) (.int .i64 (pk:Nat))).setCell (p:=⟨w.heap.size,1,none⟩) (by simp) (.int .i64 ((pp:Int)+((nm.length:Int)+1)))
     exact fU Tryz.results98 rfl (cs:=#[.int .i64 pk,.int .i64 ((pp:Int)+((nm.length:Int)+1))]) ((hX.set 0 _).set 1 _) Tryz.underlying88 rfl fF rfl ⟨by unfold gQ;congr 5,H.out.kept jE,dO.below jE⟩
    | inr x =>
     obtain rfl:=Option.some.inj lC.out
     go_enter Tryz.func98,Tryz.ntmps98
     go_wp2_with (first | (go_at_call 138;go_must (refine HH.out.mono ?_;rintro e w1 ⟨rfl,hb1⟩;have h1:=H0.out.kept hb1;have hx1:=hx0.kept hb1;have z0:=hx1.cell 0;have z1:=hx1.cell 1;have f0:=hx1.free 0;have f1:=hx1.free 1;have hz1:=hx1.lt;unfold gQ)) | (go_at_call 139;go_must (refine(HT.out _ ((Pj.out.kept hb1).kept (aj _ _)) (by have:=hb1.size;simp;omega)).mono ?_;intro e w3 htb;obtain⟨k5,s5,a5,cp5,cZ,dh,hi5,rfl,hV,hl3,qH,hb3⟩:=htb.open;have hx3:=(hx1.alloc (.cells #[.int .i64 0,.int .i64 0] 88)).kept hb3;have hy3:=(Box.new w1 #[.int .i64 0,.int .i64 0] 88).kept hb3;have l1:=hy3.lt;have l0:=hx3.lt;have y0:=hx3.cell 0;have y1:=hx3.cell 1;have g0:=hx3.free 0;have g1:=hx3.free 1;have q0:=hy3.cell 0;have q1:=hy3.cell 1;have r0:=hy3.free 0;have r1:=hy3.free 1;have HV:=ah hV;clear hV htb)) | (with_reducible refine Stop.go (p:=wpList _ _ _ ({ dst:=some 41,op:=_,type:=_,pos:=_,after:=_,guard:=_ }::_) _ _) ?_))
     refine Stop.gen fun W hW=>?_
     have hzw:=hx1.lt
     obtain⟨V,Dn⟩:∃ V,Vt.mk k5 s5 a5 cp5 cZ dh hi5=V:=⟨_,rfl⟩
     have hB1:=hB0.trans (hb1.mono hB0.size)
     have hB2:=hB1.trans ((aj w1 (.cells #[.int .i64 0,.int .i64 0] 88)).mono hB1.size)
     have hB3:=hB2.trans (hb3.mono hB2.size)
     have hB4:=(hB3.setCell (p:=⟨w1.heap.size,0,none⟩) (Nat.le_of_lt hzw) (.int .i64 0)).setCell (p:=⟨w1.heap.size,1,none⟩) (Nat.le_of_lt hzw) (.int .i64 0)
     have hBW:Below w.heap.size w W:=by
      rw[hW]
      exact hB4.trans ((aj _ _).mono hB4.size)
     have hX:Box W w.heap.size #[.int .i64 0,.int .i64 0] 88:=by
      rw[hW]
      exact((hx3.other ⟨w1.heap.size,0,none⟩ (.int .i64 0) (by show w.heap.size≠w1.heap.size;omega)).other ⟨w1.heap.size,1,none⟩ (.int .i64 0) (by show w.heap.size≠w1.heap.size;omega)).alloc _
     have hY:Box W w3.heap.size (aC k5 s5 a5 cZ.length cp5 dh hi5).toArray 151:=by
      rw[hW]
      exact Box.new' (by simp) _ _
     have hlW:Lies W V:=by
      rw[hW,←Dn]
      refine(hl3.fJ qH fun b hb=>?_).kept (aj _ _)
      rw[World.size_alloc] at hb
      exact(heap_setCell_other _ ⟨w1.heap.size,1,none⟩ b _ (by show b≠w1.heap.size;omega)).trans (heap_setCell_other _ ⟨w1.heap.size,0,none⟩ b _ (by show b≠w1.heap.size;omega))
     have LH:On (fun b=>w.heap.size<b) V:=by
      rw[←Dn]
      exact qH.mono fun b hb=>by rw[World.size_alloc] at hb;omega
     have hYV:Box W w3.heap.size V.cells.toArray 151:=by rw[←Dn];exact hY
     have hcell:(aC k5 s5 a5 cZ.length cp5 dh hi5).toArray=V.cells.toArray:=by rw[←Dn];rfl
     have SA:=HV.out
     rw[Dn] at SA
     have hS:=H.out.kept hBW
     have hlt:=hS.lt
     obtain⟨W2,hput,hm2,ho2,hsz2,F5⟩:=hS.map.sN mX Tryz.underlying137 nm (.bool true)
     obtain⟨hnl,Ap,rH⟩:=LJ.out
     have hw3:=l0
     have SB:Rs.length≠64:=by simpa using rH
     clear hW y0 y1 g0 g1 q0 q1 r0 r1 l0 l1 hx3 hy3 hl3 qH hB4 hB3 hB2 hB1 hb3 z0 z1 f0 f1 hz1 hx1 HV hY Dn
     have c0:=hS.box.cell 0
     have c1:=hS.box.cell 1
     have hol:∀ g,(Value.slice a Rs.length cap).ownBlock=some g→g<w.heap.size:=fun g hg=>(H.out.lu g hg).2
     have hb2:Box W2 r #[.slice a Rs.length cap,.map (some m)] 139:=(ho2 r hlt.2.2).trans hS.box
     have hown2:Own W2 base 153 9 iW (.slice a Rs.length cap) Rs:=hS.own.bW fun g hg=>ho2 g (by have:=(hS.lu g hg).1;omega)
     have LM:aK W2 m (fun s:List UInt8=>sv s) (wu (Rs++[(nm,V)])):=by
      rw[kV] at hm2
      ·rw[wu,List.map_append];exact hm2
      ·have:=Am nm Rs
       rw[Ap] at this
       cases hlk:look nm (wu Rs) with
       | none=>rfl
       | some z =>
        obtain⟨p,hp,hpe⟩:=Ed hlk
        rw[wu,List.mem_map] at hp
        obtain⟨q,_,rfl⟩:=hp
        rw[hlk] at this
        cases hpe
        cases this
     have hl2:∀ i (h:i<Rs.length),Lies W2 Rs[i].2:=fun i h=>(hS.lies i h).fJ (hS.on i h) fun b hb=>ho2 b (by have:=hb.1;omega)
     have Sz:Lies W2 V:=hlW.fJ LH fun b hb=>ho2 b (by omega)
     have hX2:Box W2 w.heap.size #[.int .i64 0,.int .i64 0] 88:=(ho2 _ (by omega)).trans hX
     have hsw:=hBW.size
     have hwW:=hX.lt
     have SC:Box W2 w3.heap.size (aC k5 s5 a5 cZ.length cp5 dh hi5).toArray 151:=(ho2 _ (by have:=hlt.2.1;omega)).trans (hcell▸hYV)
     have hk2:dO r m (.slice a Rs.length cap) w W2:=by
      have h1:=F5 m (Nat.le_refl _)
      exact⟨h1.os.trans hBW.os,h1.tape.trans hBW.tape,h1.output.trans hBW.output,Nat.le_trans hBW.size h1.size,fun b hb _ h2 _=>(ho2 b h2).trans (hBW.block b hb)⟩
     have HF:Hid (∀ u,Later W2.drew u→Box u r #[.slice a Rs.length cap,.map (some m)] 139∧Own u base 153 9 iW (.slice a Rs.length cap) Rs∧aK u m (fun s:List UInt8=>sv s) (wu (Rs++[(nm,V)]))∧(∀ i (h:i<Rs.length),Lies u Rs[i].2)∧Lies u V∧Box u w.heap.size #[.int .i64 0,.int .i64 0] 88∧Box u w3.heap.size (aC k5 s5 a5 cZ.length cp5 dh hi5).toArray 151∧dO r m (.slice a Rs.length cap) w u):=ah fun u hu=>by
      have hB:Below W2.heap.size W2 u:=((Below.refl _ W2).drew).trans hu
      exact⟨hb2.kept hB,hown2.kept hB,LM.kept hB,fun i h=>(hl2 i h).kept hB,Sz.kept hB,hX2.kept hB,SC.kept hB,hk2.tr (dO.below hB)⟩
     have IZ:=ah hS.on
     have HHL:=ah hlt
     have SE:=ah LH
     have HOL:=ah hol
     have akX:Rs.length<64:=by have:=hRs;omega
     have LP:iW (nm,V)=sv nm::aC k5 s5 a5 cZ.length cp5 dh hi5:=by
      have:=congrArg Array.toList hcell
      exact congrArg (sv nm::·) this.symm
     have HEV:=ah LP
     have LQ:=ah SA
     have gG:=ah hBW
     clear hol hb2 hown2 LM hl2 Sz hX2 hk2 hS hm2 F5 hlt LH hlW hX hYV hcell hnl Ap rH SB LP SA
     go_wp2_with fail
     clear hput ho2 hsz2 c0 c1 SC
     refine jq (R:=Later) [9,12] (by kernel_rfl) ?_
     refine DX (T:=[9,12]) (i:=6) rfl (by kernel_rfl) (by kernel_rfl) (by kernel_rfl) (by kernel_rfl) (fun _ _ _ h=>h) (by rfl) (fun w1 hl=>fM 151 _ rfl _ rfl ((HF.out w1 hl).2.2.2.2.2.2.1) Tryz.underlying151 rfl ((by kernel_rfl))) ?_
     simp only[eA,eB,eC,Act.put,eD,eE,eF]
     refine pl [0,1,2,3] ?_
     repeat
      refine qV ?_ rfl (fun w1=>?_) ?_
      rotate_left
      ·go_simp;try with_reducible rfl
      simp only[eA,eB,eC,Act.put,eD,eE,eF]
     refine dI ?_
     refine EJ 4 ?_ rfl (fun w1 hl=>?_) ?_
     rotate_left
     ·obtain⟨hB0,_⟩:=HF.out w1 hl;have x0:=hB0.cell 0;have x1:=hB0.cell 1;go_simp;try with_reducible rfl
     simp only[eA,eB,eC,Act.put,eD,eE,eF]
     refine pl [5,7] ?_
     repeat
      refine qV ?_ rfl (fun w1=>?_) ?_
      rotate_left
      ·go_simp;try with_reducible rfl
      simp only[eA,eB,eC,Act.put,eD,eE,eF]
     refine dI ?_
     refine fH (T:=[9,12]) (i:=8) (by kernel_rfl) rfl (fun w1 hl K hK=>?_)
     go_simp
     refine hK.out _ _ (fun _=>aj _ _) ?_
     have hsl:=pR Ak w1 153 [(nm,V)] (by simp[maxLen])
     rw[List.flatMap_cons,List.flatMap_nil,List.append_nil,HEV.out] at hsl
     have hlA:Later _ (w1.alloc (.cells (sv nm::aC k5 s5 a5 cZ.length cp5 dh hi5).toArray 153)):=Later.trans _ _ _ hl (aj _ _)
     clear hK K hl
     refine fH (T:=[9,12]) (i:=9) (by kernel_rfl) rfl (fun w1 hl K hK=>?_)
     obtain⟨e1,e2,e3,e4,e5,e6,_,e8⟩:=HF.out w1 (Later.trans _ _ _ hlA hl)
     have hnw:=C9 (hsl.kept hl)
     have hsw:base≤w1.heap.size:=by have:=e8.size;omega
     clear hsl hl hlA
     refine dD (by rfl) ?_
     refine nN _ _ 86 rfl O7 Ak rfl e2 _ 1 ((nm,V):List UInt8×Vt) rfl hnw (by simp[maxLen];omega) (by omega) (by omega) ?_
     intro a' cap' w' hown' hg hfr
     refine hK.out _ _ (fun h=>absurd h (by decide)) ?_
     clear hK K hnw
     simp only[List.getElem_toArray,List.getElem_cons_zero,List.getElem_cons_succ,Act.put,List.setIfInBounds_toArray,List.set_cons_zero,List.set_cons_succ]
     have HP:=ah fun u (hu:Later w' u)=>Wv e1 e2 e3 e4 IZ.out e5 SE.out HOL.out e6 e8 HHL.out hb hown' hg hfr hu
     clear e1 e2 e3 e4 e5 e6 e8 hown' hg hfr hsw HF IZ
     refine pl [10,11] ?_
     repeat
      refine qV ?_ rfl (fun w1=>?_) ?_
      rotate_left
      ·go_simp;try with_reducible rfl
      simp only[eA,eB,eC,Act.put,eD,eE,eF]
     refine dI ?_
     refine fH (T:=[9,12]) (i:=12) (by kernel_rfl) rfl (fun w1 hl K hK=>?_)
     obtain⟨e1,e2,e3,e4,e5⟩:=HP.out w1 hl
     have x0:=e1.cell 0
     have f0:=e1.free 0
     go_simp
     refine hK.out _ _ (fun h=>absurd h (by decide)) ?_
     clear hK K x0 f0 e1 HP hl
     refine nK (by kernel_rfl) (fun w1 hl=>?_) _
     have e6:=e2.kept hl
     have e7:=e3.kept hl
     have e8:=e4.trans e5 (dO.below hl)
     have z0:=e7.cell 0
     have z1:=e7.cell 1
     have f0:=e7.free 0
     have f1:=e7.free 1
     clear e2 e3 e4 hl
     go_wp2
     have hon:fE w.heap.size w1 ((w1.setCell ⟨w.heap.size,0,none⟩ (.int .i64 0)).setCell ⟨w.heap.size,1,none⟩ (.int .i64 0)):=(jT _).trans _ _ _ (fE.set _ 0 _) (fE.set _ 1 _)
     have hln:(Rs++[(nm,V)]).length=Rs.length+1:=by simp
     have hRd:=e6.only hon hb (fun e=>by
      obtain⟨_,cc,hbx⟩:=e6.own.block _ e
      exact absurd (hbx.kK e7) (by decide)) (fun i hi=>by
      by_cases h:i<Rs.length
      ·rw[List.getElem_append_left h];exact(H.out.lies i h).on.mono fun b hb=>by omega
      ·have:i=Rs.length:=by rw[hln] at hi;omega
       subst this
       simp only[List.getElem_append_right (Nat.le_refl _),Nat.sub_self,List.getElem_cons_zero]
       exact SE.out.mono fun b hb=>by omega)
     exact fU Tryz.results98 rfl (cs:=#[.int .i64 0,.int .i64 0]) ((e7.set 0 _).set 1 _) Tryz.underlying88 rfl fF rfl (show Yp r base a cap Rs m w (.inr (nm,x)) _ _ from⟨a',cap',V,rfl,LQ.out,hRd,e8.only hon (Nat.le_refl _),e5⟩)
end
end Go.Proofs.YtbemonecmmnlcaaGreatDoor
