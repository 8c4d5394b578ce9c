/- The texts of N25, in few letters (mini.py). -/
import Derived.Test.YtengfapcaaacaaaGreatDoorM23
import Derived.Test.YtengfapcaaacaaaGreatDoorM19
set_option linter.unusedVariables false
set_option linter.unusedSimpArgs false
set_option maxRecDepth 20000
set_option maxHeartbeats 3200000
namespace Go.Proofs.YtengfapcaaacaaaGreatDoor
section
open Go.RowKit
theorem yT(l:List Nat):(l.map fun k:Nat=>(k:Int)).map (Value.int .i64)=l.flatMap aO:=by
 induction l with
 | nil=>rfl
 | cons x l ih=>rw[List.map_cons,List.map_cons,ih,List.flatMap_cons];rfl
theorem aas(l:List Nat)(b0:Nat)(a:Option Addr)(n cap:Nat)(w:World)(h:Own w b0 3 1 aO (.slice a n cap) l)(hl:l.length≤1099511627776) :
  Calls Tryz.prog 87 #[.slice a n cap] w (iU w 3 1 aO l):=by
 have hs:=h.slice dN
 obtain⟨a',cap',hv,hle,hm,hh⟩:=h
 obtain⟨rfl,rfl,rfl⟩:=Value.slice.inj hv
 rcases hh with⟨rfl,rfl⟩ | ⟨g,cur,rfl,hbg,hg,hcs,hx⟩
 ·obtain rfl:l=[]:=List.eq_nil_of_length_eq_zero (by omega)
  refine(Tryz.slices_Clone_int_nil 0 0 w).mono fun e w' ⟨he,hw⟩=>?_
  exact⟨none,0,he,Own.nil _ _ _ _ _,hw▸Below.refl _ _⟩
 ·have:=Tryz.slices_Clone_int g 0 l.length cap (l.map fun k:Nat=>(k:Int)) w (by simp) (by omega) (fun j hj=>by
   have hj2:j<l.length:=by simpa using hj
   have h2:=hx j hj2 0 (by decide)
   rw[hg.cell,show 0+j=j*1+0 by omega,h2]
   simp[List.getD,hj2,aO])
  refine this.mono fun e w' he=>?_
  obtain⟨v',rfl,hr,hv,hB⟩:=he
  rw[List.take_of_length_le (by simp),yT] at hr
  have ho:Own w' w.heap.size 3 1 aO v' l:=Own.ofRow hr dN
  obtain⟨a',c',rfl⟩:=ho.form
  exact⟨a',c',rfl,ho,hB⟩
def Qd(b:Bool):List Value:=[.bool b]
theorem SX:fB Qd 1:=⟨fun _=>rfl,fun x u hu=>by simp[Qd] at hu;subst hu;rfl⟩
theorem OY:dQ Tryz.prog 211 4 (.bool false) 1 1:=⟨Tryz.underlying211,info_parts (by kernel_rfl),rfl,by decide⟩
def vV(n:Nat)(ws:List Nat):List Bool:=(List.range n).map fun s=>ws.contains s
theorem qm(n:Nat)(ws:List Nat):(vV n ws).length=n:=by unfold vV;simp
theorem Eu(n:Nat)(ws:List Nat)(s:Nat)(h:s<(vV n ws).length):(vV n ws)[s]=ws.contains s:=by unfold vV;simp
theorem SY(n:Nat):vV n []=List.replicate n false:=by
 unfold vV
 exact List.eq_replicate_iff.2 ⟨by simp,fun b hb=>by obtain⟨_,_,h⟩:=List.mem_map.1 hb;simpa using h.symm⟩
theorem S9(n:Nat)(ws:List Nat)(t:Nat):(vV n ws).set t true=vV n (ws++[t]):=by
 apply List.ext_getElem
 ·simp[vV]
 ·intro i h1 h2
  rw[List.getElem_set,Eu,Eu]
  by_cases e:t=i
  ·subst e;simp
  ·rw[if_neg e,Bool.eq_iff_iff]
   simp only[List.contains_iff_mem,List.mem_append,List.mem_cons,List.not_mem_nil,or_false]
   exact⟨.inl,fun h=>h.elim id fun h=>absurd h.symm e⟩
structure oI(qB n0 n tb:Nat)(W0:World)(X:Nat→Prop)(tv:Value)(ss ws:List Nat)(wr:World):Prop where
 there:Own wr qB 4 1 Qd (.slice (some ⟨tb,0,none⟩) n n) (vV n ss)
 waits:Own wr qB 3 1 aO tv ws
 own:∀ b,X b↔b=tb∨tv.ownBlock=some b
 keep:∀ b,b<n0→wr.heap[b]?=W0.heap[b]?
 size:qB≤wr.heap.size∧n0≤qB
theorem oI.same{qB n0 n tb:Nat}{W0:World}{X:Nat→Prop}{tv:Value}{ss ws:List Nat}{wr w2:World}(h:oI qB n0 n tb W0 X tv ss ws wr)(hs:wr.heap.size≤w2.heap.size)(hk:∀ b,X b∨b<n0→w2.heap[b]?=wr.heap[b]?):oI qB n0 n tb W0 X tv ss ws w2 :=
 ⟨h.there.same fun g hg=>hk g (.inl ((h.own g).2 (.inl (by cases hg;rfl)))),h.waits.same fun g hg=>hk g (.inl ((h.own g).2 (.inr hg))),h.own,fun b hb=>(hk b (.inr hb)).trans (h.keep b hb),⟨Nat.le_trans h.size.1 hs,h.size.2⟩⟩
theorem oI.blk{qB n0 n tb:Nat}{W0:World}{X:Nat→Prop}{tv:Value}{ss ws:List Nat}{wr:World}(h:oI qB n0 n tb W0 X tv ss ws wr){b:Nat}(hx:X b):qB≤b∧b<wr.heap.size:=by
 rcases (h.own b).1 hx with rfl | e
 ·exact h.there.blk rfl
 ·exact h.waits.blk e
theorem oI.kept{qB n0 n tb:Nat}{W0:World}{X:Nat→Prop}{tv:Value}{ss ws:List Nat}{wr w2:World}(h:oI qB n0 n tb W0 X tv ss ws wr)(hb:Below wr.heap.size wr w2):oI qB n0 n tb W0 X tv ss ws w2 :=
 h.same hb.size fun b hx=>hb.block b (by
  rcases hx with hx | hx
  ·exact(h.blk hx).2
  ·have:=h.size;omega)
theorem oI.ahz{qB n0 n tb:Nat}{W0:World}{X:Nat→Prop}{tv:Value}{ss ws:List Nat}{wr:World}(h:oI qB n0 n tb W0 X tv ss ws wr):tv.ownBlock≠some tb:=fun e=>by
 obtain⟨_,c1,b1⟩:=h.waits.block _ e
 obtain⟨_,c2,b2⟩:=h.there.block tb rfl
 exact absurd (b1.lM b2) (by decide)
theorem oI.mark{qB n0 n tb:Nat}{W0:World}{X:Nat→Prop}{tv:Value}{ss ws:List Nat}{wr:World}(h:oI qB n0 n tb W0 X tv ss ws wr){t:Nat}(ht:t<n) :
  oI qB n0 n tb W0 X tv (ss++[t]) ws (wr.setCell ⟨tb,t,none⟩ (.bool true))∧P9 X X wr (wr.setCell ⟨tb,t,none⟩ (.bool true)) (some tb):=by
 have hl:=qm n ss
 have h1:=h.there.store1 (i:=t) (j:=0) (by rw[hl];exact ht) (by decide) true (.bool true) (fun k hk=>by
  have hk0:k=0:=Nat.lt_one_iff.1 hk
  subst hk0
  rfl)
 rw[S9,show t*1+0=t by omega] at h1
 have hne:=h.ahz
 have hlt:=h.there.blk (g:=tb) rfl
 have hsz:=h.size
 have ho:∀ b,b≠tb→(wr.setCell ⟨tb,t,none⟩ (.bool true)).heap[b]?=wr.heap[b]?:=fun b hb=>heap_setCell_other _ _ _ _ hb
 refine⟨⟨h1,h.waits.same fun g hg=>ho g fun e=>hne (e▸hg),h.own,fun b hb=>(ho b (by omega)).trans (h.keep b hb),by rw[World.size_setCell];exact hsz⟩,⟨⟨rfl,rfl,rfl,Nat.le_of_eq (World.size_setCell _ _ _).symm,fun k _ hk=>ho k fun e=>hk (by rw[e])⟩,fun r e=>?_,fun b hb=>.inl hb⟩⟩
 cases e
 exact(h.own tb).2 (.inl rfl)
theorem oI.wait{qB n0 n tb:Nat}{W0:World}{X:Nat→Prop}{tv tv':Value}{ss ws ws':List Nat}{wr w1 w2:World}(h:oI qB n0 n tb W0 X tv ss ws wr)(hb:Below wr.heap.size wr w1)(ho:Own w2 qB 3 1 aO tv' ws')(hg:w1.grownBy w2 tv.ownBlock)(hf:tv'.ownBlock=tv.ownBlock∨tv'.ownBlock=some w1.heap.size) :
  oI qB n0 n tb W0 (fun b=>b=tb∨tv'.ownBlock=some b) tv' ss ws' w2∧P9 X (fun b=>b=tb∨tv'.ownBlock=some b) wr w2 tv.ownBlock:=by
 have h1:=h.kept hb
 have hne:=h.ahz
 have hsz:=h.size
 have hs:=hb.size
 have hs2:=hg.size
 refine⟨⟨h1.there.same fun g hgg=>hg.block g (h1.there.blk hgg).2 fun e=>?_,ho,fun b=>Iff.rfl,fun b hb'=>(hg.block b (by omega) fun e=>?_).trans (h1.keep b hb'),⟨by omega,hsz.2⟩⟩,⟨⟨hg.os.trans hb.os,hg.tape.trans hb.tape,hg.output.trans hb.output,by omega,fun k hk hn=>(hg.block k (by omega) hn).trans (hb.block k hk)⟩,fun r e=>(h.own r).2 (.inr e),fun b hb'=>?_⟩⟩
 ·cases hgg;exact hne e.symm
 ·have:=(h.waits.blk e.symm).1;omega
 ·rcases hb' with rfl | e
  ·exact .inl ((h.own _).2 (.inl rfl))
  ·rcases hf with e2 | e2
   ·exact .inl ((h.own b).2 (.inr (e2▸e)))
   ·rw[e2] at e;cases e
    have:=(ho.blk e2).2
    exact .inr ⟨hs,this⟩
theorem Own.LU{w:World}{qB E n cap:Nat}{a:Option Addr}{xs:List Nat}(h:Own w qB E 1 aO (.slice a n cap) xs) :
  n=xs.length∧xs.length≤cap∧cap≤9223372036854775807∧∃ g,(∀ i,i<xs.length→a=some ⟨g,0,none⟩∧g<w.heap.size)∧∀ (u:World) (i:Nat) (h:i<xs.length),u.heap[g]?=w.heap[g]?→u.cell? ⟨g,i,none⟩=some (.int .i64 (xs[i]:Nat)):=by
 obtain⟨h1,h2,h3,g,cur,ha,hx⟩:=h.open
 refine⟨h1,h2,h3,g,fun i hi=>⟨ha i hi,(hx (by omega)).2.1.lt⟩,fun u i hi hu=>?_⟩
 obtain⟨_,hb,_,hc⟩:=hx (by omega)
 have h4:=hc i hi 0 (by decide)
 rw[show i*1+0=i by omega] at h4
 rw[World.cell?_of_block hu,hb.cell,h4]
 simp[aO]
def al5(og:Nat)(Tc:Array Value)(on:Nat→List Nat)(n n0:Nat)(W0:World):Prop :=
 ∀ s,s<n→∃ (a:Option Addr) (c:Nat),∀ u:World,(∀ b,b<n0→u.heap[b]?=W0.heap[b]?)→ak u (.slice a (on s).length c) 1 aO (on s)∧Calls Tryz.prog og (#[.int .i64 s]++Tc) u fun e w'=>e=.returned (.slice a (on s).length c)∧w'=u
abbrev nV(b:Nat):Value:=.pointer (some ⟨b,0,none⟩)
theorem ac8(on:Nat→List Nat)(n n0:Nat)(hn:n≤65536)(fr:List Nat)(og:Nat)(Tc:Array Value)(eg:∀ args w,(callFunc og args).run Tryz.prog w=.ok (.enter og args) w)(Bn Bf Bo fb:Nat)(fa:Option Addr)(fc:Nat)(W:World)(hn0:n0≤W.heap.size)
  (hbn:Box W Bn #[.int .i64 n] 3) (hbf:Box W Bf #[.slice fa fr.length fc] 24) (hbo:Box W Bo #[.func (.func og) #[] Tc] 267) (hbl:Bn<n0∧Bf<n0∧Bo<n0) (hf:Own W fb 3 1 aO (.slice fa fr.length fc) fr) (hfl:∀ g,(Value.slice fa fr.length fc).ownBlock=some g→g<n0)
  (hnd:fr.Nodup) (hlt:∀ x∈fr,x<n) (hon:al5 og Tc on n n0 W) (ahA:∀ x,x<n→∀ t∈on x,t<n)
  (l:Nat) (J:List Nat→(Nat→Prop)→World→Prop) (hT:∀ s X X' A B row,J s X A→P9 X X' A B row→J s X' B) (hL:∀ s X A,J s X A→∀ b,X b→b<A.heap.size)
  (hY:∀ pre x X W1,J pre X W1→pre.length<n→YieldAt Fence.wide 0 Tryz.prog l (qU x) W1 fun e W'=>e=.returned (.bool true)∧J (pre++[x]) X W'∧W1.heap.size≤W'.heap.size∧∀ b,(X b∨b<n0)→W'.heap[b]?=W1.heap[b]?) (h0:J [] (fun _=>False) W) :
  Calls Tryz.prog 218 #[.func (.yield l) #[] #[],nV Bn,nV Bf,nV Bo] W fun e W'=>(∃ v,e=.returned v)∧∃ xs X,xs=ny on n 0 fr∧J xs X W':=by
 have hfn:=nodup_lt_length n fr hnd hlt
 obtain⟨h1,h2,h3⟩:=hbl
 have x1:W.cell? ⟨Bn,0,none⟩=some (.int .i64 n):=hbn.cell 0
 have HBF:=ah hbf;have GL:=ah hbo;have HF:=ah hf;have uQ:=ah hfl;have HND:=ah hnd;have OA:=ah hlt;have IL:=ah hon;have al6:=ah ahA;have VR:=ah hT;have HLL:=ah hL;have HYY:=ah hY;have H0:=ah h0
 clear hbf hbo hf hfl hnd hlt hon ahA hT hL hY h0 hbn
 have hbW:=HBF.out.lt
 go_enter Tryz.func218,Tryz.ntmps218
 go_wp2_with (refine nZ rfl 211 _ _ rfl OY SX false rfl n rfl rfl (by omega) (by simp only[maxLen];omega) W.heap.size (Nat.le_refl _) ?_;intro w1 hm1 hw1;have hb1:Below W.heap.size W w1:=by { rw[hw1];exact aj _ _ };have y1:w1.cell? ⟨Bf,0,none⟩=some (.slice fa fr.length fc):=(HBF.out.kept hb1).cell 0;have hj1:J [] (fun b=>b=W.heap.size) w1:=VR.out _ _ _ _ _ none H0.out ⟨⟨hb1.os,hb1.tape,hb1.output,hb1.size,fun k hk _=>hb1.block k hk⟩,(fun _ e=>by cases e),fun b hb=>.inr ⟨Nat.le_of_eq hb.symm,by rw[show b=_ from hb,hw1,World.size_alloc];omega⟩⟩;have hs1:w1.heap.size=W.heap.size+1:=by { rw[hw1,World.size_alloc] };have Dq:=ah hm1;have HJ1:=ah hj1;have HB1:=ah hb1;clear hw1 hm1 hj1 hb1 x1)
 refine(aas fr fb fa fr.length fc w1 (HF.out.kept HB1.out) (by omega)).mono ?_
 rintro e w2 ⟨ca,cc,rfl,ho2,hb2⟩
 have y2:w2.cell? ⟨Bf,0,none⟩=some (.slice fa fr.length fc):=((HBF.out.kept HB1.out).kept hb2).cell 0
 have hw2:oI W.heap.size n0 n W.heap.size W (fun b=>b=W.heap.size∨(Value.slice ca fr.length cc).ownBlock=some b) (.slice ca fr.length cc) [] fr w2:=by
  refine⟨?_,ho2.mono (by omega),fun _=>Iff.rfl,fun b hb=>(hb2.block b (by omega)).trans (HB1.out.block b (by omega)),by have:=hb2.size;omega,hn0⟩
  rw[SY]
  exact Dq.out.kept hb2
 have hj2:J [] (fun b=>b=W.heap.size∨(Value.slice ca fr.length cc).ownBlock=some b) w2:=VR.out _ _ _ _ _ none HJ1.out ⟨⟨hb2.os,hb2.tape,hb2.output,hb2.size,fun k hk _=>hb2.block k hk⟩,(fun _ e=>by cases e),fun b hb=>by
  rcases hb with h | h
  ·exact .inl h
  ·exact .inr (ho2.blk h)⟩
 have HW2:=ah hw2;have HJ2:=ah hj2
 obtain⟨_,hfc,ahC,ac9,hfa,hfx⟩:=HF.out.LU
 have aau:∀ (u:World) (k:Nat) (hk:k<fr.length),(∀ b,b<n0→u.heap[b]?=W.heap[b]?)→u.cell? ⟨ac9,k,none⟩=some (.int .i64 (fr[k]:Nat)):=fun u k hk hu =>
  hfx u k hk (hu ac9 (uQ.out ac9 (by rw[(hfa k hk).1];rfl)))
 have HFC:=ah aau;have Au:=ah hfa
 clear hw2 hj2 ho2 hb2 aau hfa hfx Dq HJ1 HB1 HF y1 hs1
 obtain⟨m,hm⟩:∃ m,fr.length=m:=⟨_,rfl⟩
 have HLEN:=ah hm
 rw[hm] at hfc y2 hfn
 simp only[hm]
 go_wp2
 go_loopw [18] (fun i wr=>∃ k:Nat,k≤m∧i=.int .i64 k∧oI W.heap.size n0 n W.heap.size W (fun b=>b=W.heap.size∨(Value.slice ca m cc).ownBlock=some b) (.slice ca m cc) (fr.take k) fr wr∧J [] (fun b=>b=W.heap.size∨(Value.slice ca m cc).ownBlock=some b) wr) (fun i _=>m - (intOf i).toNat)
 case atStart=>exact⟨0,Nat.zero_le _,rfl,by rw[←HLEN.out];exact HW2.out,by rw[←HLEN.out];exact HJ2.out⟩
 case round =>
  obtain⟨k,hk,rfl,hw,hj⟩:=hrel
  by_cases hlt:k<m
  ·have hlk:k<fr.length:=by rw[HLEN.out];exact hlt
   obtain⟨hfe,apX⟩:=Au.out k hlk
   subst hfe
   have c0:=HFC.out wr k hlk hw.keep
   have htk:fr.take (k+1)=fr.take k++[fr[k]]:=List.take_succ_eq_append_getElem hlk
   have hsn:=OA.out _ (List.getElem_mem hlk)
   generalize fr[k]=s at *
   have hsl:=qm n (fr.take k)
   obtain⟨g1,g2,g3,g4⟩:=hw.there.cellAt (i:=s) (j:=0) (by rw[hsl];exact hsn) (by decide)
   rw[show s*1+0=s by omega] at g1 g2
   obtain⟨m1,m2⟩:=hw.mark hsn
   have hj2:=VR.out _ _ _ _ _ _ hj m2
   have apY:=World.block_lt_of_cell? wr _ c0
   have g1':wr.cell? ⟨W.heap.size,s,none⟩=some (.bool ((vV n (fr.take k))[s]'(by rw[hsl];exact hsn))):=by rw[g1];rfl
   have Dq:=ah m1;have HJ1:=ah hj2;have Bh:=ah htk
   clear m1 m2 hj2 htk hw hj g1
   have hki:(k:Int)<(m:Int):=by omega
   have hk0:(0:Int)≤(k:Int):=by omega
   have hs0:(0:Int)≤(s:Int):=by omega
   have hsi:(s:Int)<(n:Int):=by omega
   go_wp2
   exact⟨⟨k+1,hlt,by push_cast;rfl,by rw[Bh.out];exact Dq.out,HJ1.out⟩,by simp[intOf];omega⟩
  ·obtain rfl:k=m:=by omega
   rw[←HLEN.out,List.take_length] at hw
   rw[←HLEN.out] at hj
   obtain⟨R,hR⟩:∃ R,ny on n 0 fr=R:=⟨_,rfl⟩
   have HW:=ah hw;have HJ:=ah hj;have HR:=ah hR;have Vx:=ah hfn
   clear hw hj hR HFC Au HW2 HJ2 y2 hfc ahC hlt hfn
   go_wp2
   go_loopw [6,9] (fun v6 v9 wr=>∃ (f i:Nat) (ws:List Nat) (X:Nat→Prop) (a:Option Addr) (c:Nat),v6=.slice a ws.length c∧v9=.int .i64 i∧i≤ws.length∧oI W.heap.size n0 n W.heap.size W X (.slice a ws.length c) ws ws wr∧J (ws.take i) X wr∧ny on f i ws=R∧f+i=n∧ws.Nodup∧∀ x∈ws,x<n) (fun _ v9 _=>n - (intOf v9).toNat)
   case atStart=>exact⟨n,0,fr,_,ca,cc,by rw[HLEN.out],rfl,Nat.zero_le _,HW.out,HJ.out,HR.out,rfl,HND.out,OA.out⟩
   case round =>
    obtain⟨f,i,ws,X,a,c,rfl,rfl,hi,hw,hj,hr,hfi,hnd,hlt⟩:=hrel
    have hwn:=nodup_lt_length n ws hnd hlt
    obtain⟨_,hfc,ahC,wb,hwa,hwx⟩:=hw.waits.LU
    by_cases NT:i<ws.length
    ·obtain⟨hwe,hwl⟩:=hwa i NT
     subst hwe
     have c0:=hwx wr i NT rfl
     have hsn:=hlt _ (List.getElem_mem NT)
     obtain⟨fn,tmps,assign,body,hy,hRo⟩:=HYY.out (ws.take i) ws[i] X wr hj (by rw[List.length_take];omega)
     rw[show ws.take i++[ws[i]]=ws.take (i+1) from(List.take_succ_eq_append_getElem NT).symm] at hRo
     have hii:(i:Int)<(ws.length:Int):=by omega
     have hi0:(0:Int)≤(i:Int):=by omega
     obtain⟨f,rfl⟩:∃ f',f=f'+1:=⟨f - 1,by omega⟩
     rw[ny,List.getElem?_eq_getElem NT] at hr
     dsimp only at hr
     obtain⟨s,hs⟩:∃ s,ws[i]=s:=⟨_,rfl⟩
     rw[hs] at c0 hsn hy hr
     have HS:=ah hs;have HWX:=ah hwx;have HWK:=ah hw;have HR2:=ah hr;have ahE:=ah hnd;have ahF:=ah hlt
     clear hs hwx hw hr hnd hlt hj hwa
     go_wp2
     rename_i wR apZ
     refine wp_scope_straight ?_
     refine(wpIn_wide (n:=0)).1 ?_
     gi_wp2_with (refine⟨rfl,?_⟩;refine hRo.mono ?_;clear hRo;rintro e w2 ⟨rfl,hj2,hs2,hk2⟩)
     refine wpIn_wide.2 ?_
     refine wp_label ?_
     have hw2:=HWK.out.same hs2 hk2
     obtain⟨oa,oc,ada⟩:=IL.out s hsn
     have HW2:=ah hw2;have HJ2:=ah hj2;have HOO:=ah ada
     have hD2:Below w2.heap.size w2 w2.drew:=(Below.refl _ _).drew
     have HF2:Hid (∀ u,Later w2.drew u→Box u Bo #[.func (.func og) #[] Tc] 267∧u.cell? ⟨wb,i,none⟩=some (.int .i64 s)∧ak u (.slice oa (on s).length oc) 1 aO (on s)∧Calls Tryz.prog og (#[.int .i64 s]++Tc) u (aY u (.slice oa (on s).length oc))∧Below w2.heap.size w2 u):=ah fun u hl=>by
      have h1:Below w2.heap.size w2 u:=hD2.trans (hl.mono hD2.size)
      have h3:=hw2.kept h1
      obtain⟨a1,a2⟩:=ada u h3.keep
      refine⟨(h3.keep Bo (by omega)).trans GL.out,?_,a1,a2.mono fun e w' ⟨b1,b2⟩=>⟨b1,b2▸Below.refl _ _⟩,h1⟩
      have e1:=HWX.out u i NT (((h1.block wb (by omega)).trans (hk2 wb (.inl ((HWK.out.own wb).2 (.inr rfl))))))
      rwa[HS.out] at e1
     clear hw2 hj2 ada hs2 hk2 hD2 c0
     go_wp2_with fail
     refine wpIn_wide.2 ?_
     go_wp2_with fail
     refine aA (R:=Later) 8 (by kernel_rfl) ?_
     refine pl [0,1,2,3,4,7] ?_
     repeat
      refine dI ?_ rfl (fun w1 hl=>?_) ?_
      rotate_left
      ·obtain⟨hX,hc,_,_,_⟩:=HF2.out w1 hl;have y2:w1.cell? ⟨Bo,0,none⟩=some (.func (.func og) #[] Tc):=hX.cell 0;go_simp;try with_reducible rfl
      simp only[eA,eB,eC,Act.put,eD,eE,eF]
     refine bU ?_
     refine EI 5 ?_ ?_ ?_ rfl (fun w1=>?_) (fun w1 hl=>?_) ?_
     rotate_left 4
     ·exact(HF2.out w1 hl).2.2.2.1
     rotate_left
     ·go_simp
     simp only[eA,eB,eC,Act.put,eD,eE,eF]
     refine jM 6 ?_ rfl (fun w1 hl=>?_) ?_
     rotate_left
     ·skip;go_simp;try with_reducible rfl
     simp only[eA,eB,eC,Act.put,eD,eE,eF]
     refine aH (by kernel_rfl) (fun w1 hl=>?_) _
     obtain⟨_,_,hsl,_,rF⟩:=HF2.out w1 hl
     have hw3:=HW2.out.kept rF
     have hj3:=VR.out _ _ X _ _ none HJ2.out ⟨⟨rF.os,rF.tape,rF.output,rF.size,fun k hk _=>rF.block k hk⟩,(fun _ e=>by cases e),fun b hb=>.inl hb⟩
     obtain⟨_,_,_,hm2,wO,_,_⟩:=hsl.open
     have hL:=al6.out s hsn
     obtain⟨L,hLL⟩:∃ L,on s=L:=⟨_,rfl⟩
     rw[hLL] at HOO HR2 hL hm2 ⊢
     obtain⟨m2,adb⟩:∃ m2,L.length=m2:=⟨_,rfl⟩
     have HW3:=ah hw3;have HJ3:=ah hj3;have Zt:=ah adb;have ade:=ah hL
     rw[adb] at hm2 ⊢
     clear hw3 hj3 hl rF HF2 hsl adb hLL hL HW2 HJ2
     go_wp2
     go_loopw [6,46] (fun v6 v46 wr=>∃ (j:Nat) (ws':List Nat) (X':Nat→Prop) (a':Option Addr) (c':Nat),v6=.slice a' ws'.length c'∧v46=.int .i64 j∧j≤m2∧ws'=lu (L.take j) ws∧oI W.heap.size n0 n W.heap.size W X' (.slice a' ws'.length c') ws' ws' wr∧J (ws.take (i+1)) X' wr) (fun _ v46 _=>m2 - (intOf v46).toNat)
     case atStart=>exact⟨0,ws,X,_,_,rfl,rfl,Nat.zero_le _,rfl,HW3.out,HJ3.out⟩
     case round =>
      obtain⟨j,ws',X',a',c',rfl,rfl,hj,hws,hw,hJ⟩:=hrel
      by_cases Ew:j<m2
      ·have hjl:j<L.length:=by rw[Zt.out];exact Ew
       obtain⟨ob,oo,_,_,_,hoa,hox⟩:=((HOO.out wr hw.keep).1).dh
       obtain rfl:=hoa j hjl
       have c0:=hox j hjl wr (Below.refl _ _)
       have hob:=World.block_lt_of_cell? wr _ c0
       have htn:L[j]<n:=ade.out _ (List.getElem_mem hjl)
       have hws2:lu (L.take (j+1)) ws=if ws'.contains L[j] then ws' else ws'++[L[j]]:=by rw[List.take_succ_eq_append_getElem hjl,Gv,←hws];rfl
       generalize L[j]=t at *
       have hsl:=qm n ws'
       have hnd':ws'.Nodup:=by rw[hws];exact xZ _ _ ahE.out
       have hlt':∀ x∈ws',x<n:=fun x hx=>by
        rw[hws,uT] at hx
        exact hx.elim (ahF.out x) fun hx=>ade.out x (List.mem_of_mem_take hx)
       have ap0:=nodup_lt_length n ws' hnd' hlt'
       obtain⟨g1,g2,g3,g4⟩:=hw.there.cellAt (i:=t) (j:=0) (by rw[hsl];exact htn) (by decide)
       rw[show t*1+0=t by omega] at g1 g2
       have g1':wr.cell? ⟨W.heap.size,t,none⟩=some (.bool (ws'.contains t)):=by rw[g1,Eu];rfl
       have hji:(j:Int)<(m2:Int):=by omega
       have hj0:(0:Int)≤(j:Int):=by omega
       have ht0:(0:Int)≤(t:Int):=by omega
       have hti:(t:Int)<(n:Int):=by omega
       clear g1 hnd' hlt'
       cases hct:ws'.contains t with
       | true =>
        rw[hct] at g1'
        rw[hct,if_pos rfl] at hws2
        have HW4:=ah hw;have HJ4:=ah hJ;have HWS:=ah hws2
        clear hw hJ hws hws2 hct
        go_wp2
        exact⟨⟨j+1,ws',X',a',c',rfl,by push_cast;rfl,Ew,HWS.out.symm,HW4.out,HJ4.out⟩,by simp[intOf];omega⟩
       | false =>
        rw[hct] at g1'
        rw[hct,if_neg (by simp)] at hws2
        obtain⟨m1,m3⟩:=hw.mark htn
        have hj2:=VR.out _ _ _ _ _ _ hJ m3
        have hB1:=aj (wr.setCell ⟨W.heap.size,t,none⟩ (.bool true)) (.cells #[.int .i64 t] 3)
        have ho1:=m1.waits.kept hB1
        have hbs:=m1.size.1
        have HM:=ah m1;have HJM:=ah hj2;have HWS:=ah hws2;have HB:=ah hB1;have Rl:=ah hbs
        clear hw hJ hws hws2 hct m1 m3 hj2 hB1 hbs
        go_wp2_with (at_builtin;go_must (refine eP rfl _ _ 24 rfl jg dN rfl ho1 ⟨wr.heap.size,0,none⟩ 1 t rfl (by rw[←World.size_setCell wr ⟨W.heap.size,t,none⟩ (.bool true)];exact dD _ [.int .i64 (t:Nat)] _) (by simp only[maxLen];omega) (by omega) (by rw[World.size_alloc];have:=Rl.out;omega) ?_;intro a7 c7 w7 iI dn ug))
        obtain⟨m4,m5⟩:=HM.out.wait HB.out iI dn ug
        have hj7:=VR.out _ _ _ _ _ _ HJM.out m5
        exact⟨⟨j+1,ws'++[t],_,a7,c7,by rw[List.length_append];rfl,by push_cast;rfl,Ew,HWS.out.symm,by rw[List.length_append];exact m4,hj7⟩,by simp[intOf];omega⟩
      ·obtain rfl:j=m2:=by omega
       rw[←Zt.out,List.take_length] at hws
       have hpre:=Gw L ws
       rw[←hws] at hpre
       have htk:ws.take (i+1)=ws'.take (i+1):=by
        obtain⟨z,rfl⟩:=hpre
        rw[List.take_append_of_le_length (by omega)]
       have hle:=hpre.length_le
       have hnd':ws'.Nodup:=by rw[hws];exact xZ _ _ ahE.out
       have hlt':∀ x∈ws',x<n:=fun x hx=>by
        rw[hws,uT] at hx
        exact hx.elim (ahF.out x) fun hx=>ade.out x hx
       have gy:=HR2.out
       rw[←hws] at gy
       rw[htk] at hJ
       have HW4:=ah hw;have HJ4:=ah hJ;have al7:=ah hnd';have al8:=ah hlt';have HR4:=ah gy
       clear hw hJ hws hpre htk hnd' hlt' gy
       go_wp2
       refine wR _ _ ?_
       go_wp2
       exact⟨⟨f,i+1,ws',X',a',c',rfl,by push_cast;rfl,by omega,HW4.out,HJ4.out,HR4.out,by omega,al7.out,al8.out⟩,by simp[intOf];omega⟩
    ·obtain rfl:i=ws.length:=by omega
     rw[List.take_length] at hj
     have hRR:ny on f ws.length ws=ws:=by
      cases f with
      | zero=>rfl
      | succ f=>rw[ny,List.getElem?_eq_none (Nat.le_refl _)]
     rw[hRR] at hr
     go_wp2
     go_end0
     exact⟨⟨_,rfl⟩,X,by rw[hr,←HR.out] at hj;exact hj⟩
end
section
open Go.RowKit Go.Shelf
attribute [local go_sem] Oper.semAt_some
def ji(l:List UInt8):List UInt8:=l.takeWhile (· != 10)
theorem adf(l:List UInt8):(ji l).length≤l.length:=(List.takeWhile_sublist _).length_le
theorem XW(l:List UInt8):l.take (ji l).length=ji l:=by
 induction l with
 | nil=>rfl
 | cons x l ih =>
  unfold ji at ih ⊢
  rw[List.takeWhile_cons]
  split
  ·rw[List.length_cons,List.take_succ_cons,ih]
  ·rfl
theorem LV:∀ l:List UInt8,Lib.index l [10]=if (ji l).length=l.length then -1 else ((ji l).length:Int)
 | []=>by simp[Lib.index,ji]
 | x::l=>by
  have ih:=LV l
  by_cases h:x=10
  ·subst h;simp[Lib.index,ji]
  ·have hx:Lib.index (x::l) [10]=if Lib.index l [10]=-1 then -1 else Lib.index l [10]+1:=by
    rw[Lib.index]
    simp[Ne.symm h]
   have hl:ji (x::l)=x::ji l:=by unfold ji;rw[List.takeWhile_cons,if_pos (by simpa using h)]
   rw[hx,ih,hl]
   rw[List.length_cons,List.length_cons]
   by_cases h2:(ji l).length=l.length
   ·rw[if_pos h2,if_pos rfl,if_pos (by omega)]
   ·rw[if_neg h2,if_neg (by omega),if_neg (by omega)];rfl
def Az:Nat→Nat→List UInt8→List (Nat×List UInt8)
 | 0,_,_=>[]
 | f+1,at',l=>if l.length=0 then [] else (at',ji l)::Az f (at'+((ji l).length+1)) (l.drop ((ji l).length+1))
def uh(l:List UInt8):List (Nat×List UInt8):=Az l.length 0 l
theorem XY(f at':Nat):Az f at' []=[]:=by cases f <;> rfl
theorem U2(f at':Nat)(l:List UInt8)(h0:l.length≠0):Az (f+1) at' l=(at',ji l)::Az f (at'+((ji l).length+1)) (l.drop ((ji l).length+1)):=by rw[Az,if_neg h0]
theorem below_drewN(w:World)(k:Nat){B:Nat}:Below B w (w.drewN k):=⟨rfl,rfl,rfl,Nat.le_refl _,fun _ _=>rfl⟩
theorem adg(p:Addr)(n c:Nat)(l:List UInt8)(hn:n=l.length):∃ v2 v3,Lib.cutV (some p) n c 1 (Lib.index l [10])=.tuple #[.slice (some p) (ji l).length c,v2,v3]:=by
 rw[LV]
 unfold Lib.cutV
 by_cases h:(ji l).length=l.length
 ·rw[if_pos h,if_neg (by omega),hn,h];exact⟨_,_,rfl⟩
 ·rw[if_neg h,if_pos (by omega),Int.toNat_natCast];exact⟨_,_,rfl⟩
def GN(l:List UInt8)(x:Nat×List UInt8):Prop:=x.1+x.2.length≤l.length∧x.2=(l.drop x.1).take x.2.length
abbrev aeK(g:Nat×Nat)(c:Nat)(x:Nat×List UInt8):Array Value:=#[.int .i64 x.1,.slice (some ⟨g.1,g.2+x.1,none⟩) x.2.length (c - x.1)]
def adh(X:Nat→Prop)(J:List (Nat×List UInt8)→World→Prop)(l:List UInt8)(W wr:World)(i:Value):Prop :=
 ∃ (at' f:Nat) (pre:List (Nat×List UInt8)),i=.int .i64 at'∧at'≤l.length+1∧pre++Az f at' (l.drop at')=uh l∧(l.drop at').length≤f∧J pre wr∧aQ X W wr
set_option maxRecDepth 100000 in
theorem adi(n lp bB:Nat)(g:Nat×Nat)(m c:Nat)(l:List UInt8)(hm:m≤65536)(X:Nat→Prop)(hX:¬ X bB∧¬ X g.1∧¬ X 0)(J Jx:List (Nat×List UInt8)→World→Prop)
  (hJ:∀ pre A B,J pre A→A.grownBy B none→J pre B)
  (hY:∀ pre x W,J pre W→pre.length<(uh l).length→GN l x→YieldAt Fence.wide (n - 1) Tryz.prog lp (aeK g c x) W fun e W'=>(e=.returned (.bool true)∧J (pre++[x]) W'∧aQ X W W')∨(e=.returned (.bool false)∧Jx (pre++[x]) W'))
  (W:World) (hM:∃ k,W.cell? ⟨0,0,none⟩=some (.int .i64 k)) (hB:Box W bB #[.slice (some ⟨g.1,g.2,none⟩) m c] 35) (hS:ak W (.slice (some ⟨g.1,g.2,none⟩) m c) 1 bK l) (h0:J [] W) :
  CallsIn Fence.wide n Tryz.prog 97 #[.func (.yield lp) #[] #[],.pointer (some ⟨bB,0,none⟩)] W fun e W'=>(∃ v,e=.returned v)∧((∃ ys,ys=uh l∧J ys W')∨(∃ pre,pre <+: uh l∧Jx pre W')):=by
 refine callsIn_of_wp Tryz.func97 rfl trivial ?_ rfl
 simp only[Tryz.ntmps97,List.size_toArray,List.length_cons,List.length_nil,Nat.reduceAdd,Nat.reduceSub,Array.replicate_succ,Array.replicate_zero,List.push_toArray,List.append_toArray,List.nil_append,List.cons_append]
 gi_wp2
 gi_loopw [3] (fun i wr=>adh X J l W wr i) (fun i _=>m+1 - (intOf i).toNat)
 case atStart=>exact⟨0,l.length,[],rfl,by omega,rfl,by simp,h0,aQ.refl _ _⟩
 case round =>
  obtain⟨at',f,pre,rfl,hle,he,hf,wJ,hkr⟩:=hrel
  have hBr:=hkr.box hX.1 hB
  have k0:=hBr.cell 0
  obtain⟨hlm,hmc,hc63,hcell⟩:=hS.cellsA
  by_cases hlt:at'<m
  ·have hca:¬ c=at':=by omega
   have al9:decide ((at':Int)<(m:Int))=true:=decide_eq_true (by omega)
   have hlen:(l.drop at').length=m - at':=by rw[List.length_drop];omega
   obtain⟨f,rfl⟩:∃ f',f=f'+1:=⟨f - 1,by omega⟩
   rw[U2 f at' _ (by omega),List.drop_drop] at he
   have ahJ:=adf (l.drop at')
   have hBW:Below wr.heap.size wr (wr.alloc (.cells #[.int .u8 10] 5)):=aj _ _
   obtain⟨k9,hk9⟩:=hM
   have hM9:(wr.alloc (.cells #[.int .u8 10] 5)).cell? ⟨0,0,none⟩=some (.int .i64 k9):=((hkr.trans (aQ.below hBW)).cell hX.2.2 hk9)
   have hcl:∀ i,i<m - at'→(wr.alloc (.cells #[.int .u8 10] 5)).cell? ⟨g.1,g.2+at'+i,none⟩=some (.int .u8 (((l.drop at').map fun u=>((u.toNat:Nat):Int)).getD i 0)):=fun i hi=>by
    have h1:=hcell (at'+i) (by omega) W (Below.refl _ _)
    have h2:=(hkr.trans (aQ.below hBW)).cell hX.2.1 h1
    rw[Nat.add_assoc,h2]
    simp[List.getD,List.getElem?_map,List.getElem?_drop,List.getElem?_eq_getElem (show at'+i<l.length by omega)]
   have hcut:=Tryz.bytes_Cut_all (some ⟨g.1,g.2+at',none⟩) (some ⟨wr.heap.size,0,none⟩) (m - at') (c - at') 1 1 ((l.drop at').map fun u=>((u.toNat:Nat):Int)) [10] k9 (wr.alloc (.cells #[.int .u8 10] 5)) (by rw[List.length_map,hlen]) rfl (fun x hx=>by
    rw[List.mem_map] at hx
    obtain⟨u,_,rfl⟩:=hx
    have:=u.toNat_lt
    omega) (fun y hy=>by simp at hy;subst hy;decide) (fun _=>⟨_,_,rfl,hcl⟩) (fun _=>⟨_,_,rfl,fun i hi=>by
     obtain rfl:i=0:=by omega
     exact(Box.new wr #[.int .u8 10] 5).cell 0⟩) (by simp) (by omega) (by omega) (by omega) hM9
   have hbo:Lib.bytesOf ((l.drop at').map fun u=>((u.toNat:Nat):Int))=l.drop at':=by
    unfold Lib.bytesOf
    simp[List.map_map,Function.comp_def]
   rw[hbo,show Lib.bytesOf [10]=[10] from rfl] at hcut
   obtain⟨v2,v3,hv⟩:=adg ⟨g.1,g.2+at',none⟩ (m - at') (c - at') (l.drop at') hlen.symm
   rw[hv] at hcut
   have FC:=fun nd=>hY pre (at',ji (l.drop at')) _ (hJ pre _ ((wr.alloc (.cells #[.int .u8 10] 5)).drewN nd) wJ ⟨rfl,rfl,rfl,hBW.size,fun k hk _=>hBW.block k hk⟩) (by rw[←he];simp) ⟨by show at'+(ji _).length≤_;omega,(XW _).symm⟩
   have hwrap:at'+((ji (l.drop at')).length+1)≤70000:=by omega
   generalize hgl:ji (l.drop at')=ln at *
   have HC:=ah hcut
   have HY:=ah FC
   have HE:=ah he
   have HW:=ah hwrap
   have HL:=ah ahJ
   have HF:=ah hf
   have HLM:=ah hlm
   have uK:=ah hlen
   have hln:ln.length≤65536:=by omega
   have hkd:=fun nd=>hkr.trans (aQ.below (hBW.trans (below_drewN _ nd)))
   have HK:=ah hkd
   have ap1:(at':Int)≤(m:Int):=by omega
   have apC:(m:Int)≤(c:Int):=by omega
   have hdd:∀ k:Nat,(Fence.wide.depth.isSome=true→1≤k):=fun k h=>by cases h
   clear hcut FC he hcl hM9 hbo hv hY hf ahJ hlen hlm hcell hS hwrap hkd hk9 hgl
   gi_wp2_with (first | (refine⟨trivial,hdd _,?_⟩;gi_at_call 98;go_must (refine(callsIn_wide.2 HC.out).mono ?_;rintro e w1 ⟨rfl,nd,rfl⟩;obtain⟨fn,tmps,assign,body,hy,hR⟩:=HY.out nd)) | (refine⟨hdd _,?_⟩;refine hR.mono ?_;clear hR;rintro e W2 (⟨rfl,hJ2,hk2⟩ | ⟨rfl,hx2⟩)))
   ·have h1:=HL.out
    have h2:=uK.out
    have h3:=HLM.out
    have h4:=HF.out
    refine⟨⟨at'+(ln.length+1),f,pre++[(at',ln)],by push_cast;rfl,by omega,by rw[List.append_assoc];exact HE.out,by rw[List.length_drop] at h4 ⊢;omega,hJ2,(HK.out nd).trans hk2⟩,by simp[intOf];omega⟩
   ·refine bodyPost_ret (results_none rfl _ _ _) rfl ?_
    refine⟨⟨_,rfl⟩,.inr ⟨_,?_,hx2⟩⟩
    rw[←HE.out]
    exact⟨_,by rw[List.append_assoc];rfl⟩
  ·have al9:decide ((at':Int)<(m:Int))=false:=decide_eq_false (by omega)
   rw[List.drop_eq_nil_of_le (by omega),XY,List.append_nil] at he
   subst he
   clear hcell hlm hmc hc63 hM hB hS
   gi_wp2
   go_end0
   exact⟨⟨_,rfl⟩,.inl ⟨_,rfl,wJ⟩⟩
def aeL(l:List UInt8)(g:Nat×Nat)(c:Nat)(x:{ x:Nat×List UInt8 // GN l x }):Array Value:=aeK g c x.1
theorem U3(n bB:Nat)(g:Nat×Nat)(m c:Nat)(l:List UInt8)(hm:m≤65536)(X:Nat→Prop)(hX:¬ X bB∧¬ X g.1∧¬ X 0)(w:World)(hM:∃ k,w.cell? ⟨0,0,none⟩=some (.int .i64 k))(hB:Box w bB #[.slice (some ⟨g.1,g.2,none⟩) m c] 35)(hS:ak w (.slice (some ⟨g.1,g.2,none⟩) m c) 1 bK l) :
  SeqStopsK Fence.wide n Tryz.prog 97 #[.pointer (some ⟨bB,0,none⟩)] (aeL l g c) (aQ X) (fun ys=>ys.map (·.val)=uh l) (fun pre=>pre.map (·.val) <+: uh l) (uh l).length w:=fun lp J Jx W hW hJ _ hY h0=>by
 obtain⟨k,hk⟩:=hM
 refine(adi n lp bB g m c l hm X hX (fun pre W=>∃ p:List { x:Nat×List UInt8 // GN l x },p.map (·.val)=pre∧J p W) (fun pre W=>∃ p:List { x:Nat×List UInt8 // GN l x },p.map (·.val)=pre∧Jx p W) (fun pre A B ⟨p,hp,hA⟩ hg=>⟨p,hp,hJ p A B none hA hg (fun r e=>by cases e)⟩)
  (fun pre x W ⟨p,hp,hj⟩ hl hx=>(hY p ⟨x,hx⟩ W hj (by rw[←hp] at hl;simpa using hl)).mono (fun e W' h=>?_)) W ⟨k,(aQ.below (X:=fun _=>False) hW).cell id hk⟩ (hB.kept hW) (hS.kept hW) ⟨[],rfl,h0⟩).mono (fun e W' h=>?_)
 ·rcases h with⟨h1,h2,h3⟩ | ⟨h1,h2⟩
  ·exact .inl ⟨h1,⟨_,by simp[hp],h2⟩,h3⟩
  ·exact .inr ⟨h1,_,by simp[hp],h2⟩
 ·rcases h with⟨h1,⟨_,rfl,p,hp,h2⟩ | ⟨_,h3,p,rfl,h2⟩⟩
  ·exact⟨h1,.inl ⟨p,hp,h2⟩⟩
  ·exact⟨h1,.inr ⟨p,h3,h2⟩⟩
theorem XZ(v:Value)(w:World)(hv:∃ a n c,v=.slice a n c):Calls Tryz.prog 62 #[v] w fun e w'=>e=.returned (.func (.func 97) #[] #[.pointer (some ⟨w.heap.size,0,none⟩)])∧w'=w.alloc (.cells #[v] 35):=by
 obtain⟨a,n,c,rfl⟩:=hv
 go_enter Tryz.func62,Tryz.ntmps62
 go_wp2
 have hmf:∀ (fn:Fn) (first cap:Array Value) (w:World),(Instr.makeFunc fn first cap).run Tryz.prog w=.ok (.func fn first cap) w:=fun _ _ _ _=>rfl
 go_ret
 exact⟨rfl,rfl⟩
end
end Go.Proofs.YtengfapcaaacaaaGreatDoor
