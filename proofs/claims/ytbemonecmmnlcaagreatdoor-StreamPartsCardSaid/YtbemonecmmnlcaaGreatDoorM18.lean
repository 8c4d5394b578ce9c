/- The texts of S18, in few letters (mini.py). -/
import Derived.Test.YtbemonecmmnlcaaGreatDoorM17
import Derived.Test.YtbemonecmmnlcaaGreatDoorM13
set_option linter.unusedVariables false
set_option linter.unusedSimpArgs false
set_option maxRecDepth 20000
set_option maxHeartbeats 3200000
namespace Go.Proofs.YtbemonecmmnlcaaGreatDoor
section
open Go.RowKit
theorem DU(t:Nat):∀ (l m:List (List Int)) (s:Nat),lg t (l++m) s=lg t l s++lg t m (s+l.length)
 | [],m,s=>by rw[List.nil_append];rfl
 | r::l,m,s=>by rw[List.cons_append,lg,lg,DU t l m,List.append_assoc,List.length_cons,show s+(l.length+1)=s+1+l.length by omega]
theorem QV(t:Nat)(r:List Int)(u:Int)(s:Nat):backTo t (r++[u]) s=if u=(t:Int) then backTo t r s++[s] else backTo t r s:=by
 unfold backTo
 rw[List.filter_append,List.map_append]
 by_cases h:u=(t:Int)
 ·rw[if_pos h,List.filter_cons_of_pos (by simpa using h)];rfl
 ·rw[if_neg h,List.filter_cons_of_neg (by simpa using h),List.filter_nil,List.map_nil,List.append_nil]
theorem IW(t:Nat)(r:List Int)(s:Nat):(backTo t r s).length≤r.length:=by unfold backTo;rw[List.length_map];exact List.length_filter_le _ _
theorem Ll(t m:Nat):∀ (l:List (List Int)) (s:Nat),(∀ r∈l,r.length≤m)→(lg t l s).length≤l.length*m
 | [],s,_=>by simp[lg]
 | r::l,s,h=>by
  have h1:=IW t r s
  have h2:=h r (List.mem_cons_self ..)
  have h3:=Ll t m l (s+1) (fun x hx=>h x (List.mem_cons_of_mem _ hx))
  rw[lg,List.length_append,List.length_cons,Nat.succ_mul];omega
theorem DV:∀ (l m:List Int) (s:Nat),gQ (l++m) s=gQ l s++gQ m (s+l.length)
 | [],m,s=>by rw[List.nil_append];rfl
 | k::l,m,s=>by
  rw[List.cons_append,gQ,gQ,DV l m,List.length_cons,show s+(l.length+1)=s+1+l.length by omega]
  split
  ·rfl
  ·rw[List.cons_append]
theorem DW:∀ (l:List Int) (s:Nat),(gQ l s).length≤l.length
 | [],_=>by simp[gQ]
 | k::l,s=>by have:=DW l (s+1);rw[gQ];split <;> simp only[List.length_cons] <;> omega
def eG(D:aF)(k j t:Nat):List Nat:=if t<D.label.length then lg t (D.next.take k) 0++backTo t ((D.next.getD k []).take j) k else if t=D.label.length then gQ (D.label.take k) 0 else []
theorem Xu(D:aF):eG D 0 0=fun _=>[]:=by
 funext t
 unfold eG
 rw[List.take_zero,List.take_zero,List.take_zero]
 simp[lg,backTo,gQ]
theorem EK{D:aF}{t:Nat}(k j:Nat)(h:t<D.label.length):eG D k j t=lg t (D.next.take k) 0++backTo t ((D.next.getD k []).take j) k:=if_pos h
theorem Ap(D:aF)(k j:Nat):eG D k j D.label.length=gQ (D.label.take k) 0:=(if_neg (Nat.lt_irrefl _)).trans (if_pos rfl)
theorem Aq{D:aF}{t:Nat}(k j:Nat)(h:D.label.length<t):eG D k j t=[]:=(if_neg (by omega)).trans (if_neg (by omega))
theorem Xv{D:aF}{k j u:Nat}{r:List Int}(hk:D.next[k]?=some r)(hj:j<r.length)(hu:r[j]=(u:Int))(hun:u<D.label.length):eG D k (j+1)=jA (eG D k j) u (eG D k j u++[k]):=by
 have hg:D.next.getD k []=r:=by rw[List.getD_eq_getElem?_getD,hk];rfl
 funext t
 rcases Nat.lt_trichotomy t D.label.length with h | h | h
 ·have e0:eG D k (j+1) t=if u=t then eG D k j t++[k] else eG D k j t:=by
   rw[EK _ _ h,EK _ _ h,hg,List.take_succ_eq_append_getElem hj,QV,hu]
   by_cases e:u=t
   ·rw[if_pos (by omega),if_pos e,List.append_assoc]
   ·rw[if_neg (by omega),if_neg e]
  rw[e0]
  by_cases e:u=t
  ·subst e;rw[if_pos rfl,kC]
  ·rw[if_neg e,jD _ _ (fun a=>e a.symm)]
 ·subst h;rw[jD _ _ (by omega),Ap,Ap]
 ·rw[jD _ _ (by omega),Aq _ _ h,Aq _ _ h]
theorem ZU{D:aF}{k:Nat}{r:List Int}(hk:D.next[k]?=some r)(hkl:k<D.label.length):eG D (k+1) 0=if labS D k≠0 then jA (eG D k r.length) D.label.length (eG D k r.length D.label.length++[k]) else eG D k r.length:=by
 have hg:D.next.getD k []=r:=by rw[List.getD_eq_getElem?_getD,hk];rfl
 obtain⟨hk2,hr⟩:=List.getElem?_eq_some_iff.1 hk
 have hb:∀ t,t<D.label.length→eG D (k+1) 0 t=eG D k r.length t:=fun t ht=>by
  rw[EK _ _ ht,EK _ _ ht,hg,List.take_succ_eq_append_getElem hk2,DU,List.length_take,Nat.min_eq_left (by omega),Nat.zero_add,hr,List.take_zero,List.take_length]
  simp[lg,backTo]
 have he:gQ (D.label.take (k+1)) 0=if labS D k≠0 then gQ (D.label.take k) 0++[k] else gQ (D.label.take k) 0:=by
  rw[List.take_succ_eq_append_getElem hkl,DV,List.length_take,Nat.min_eq_left (by omega),Nat.zero_add,kK.OX hkl]
  by_cases h:D.label[k]=0
  ·rw[if_neg (by simpa using h)];simp[gQ,h]
  ·rw[if_pos h];simp[gQ,h]
 funext t
 rcases Nat.lt_trichotomy t D.label.length with h | h | h
 ·rw[hb t h]
  split
  ·rw[jD _ _ (by omega)]
  ·rfl
 ·subst h
  rw[Ap,he]
  split
  ·rw[kC,Ap]
  ·rw[Ap]
 ·rw[Aq _ _ h]
  split
  ·rw[jD _ _ (by omega),Aq _ _ h]
  ·rw[Aq _ _ h]
theorem OY{D:aF}(hw:kK D)(k j t:Nat)(hk:k≤D.label.length):(eG D k j t).length≤33554432:=by
 have hwd:=hw.wd
 have hle:=hw.le
 have hrl:∀ r∈D.next,r.length≤256:=fun r hr=>by have:=hw.Gx r hr;omega
 unfold eG
 by_cases ht:t<D.label.length
 ·rw[if_pos ht,List.length_append]
  have h1:=Ll t 256 (D.next.take k) 0 (fun r hr=>hrl r (List.mem_of_mem_take hr))
  have h2:=IW t ((D.next.getD k []).take j) k
  have h3:((D.next.getD k []).take j).length≤256:=by
   rw[List.length_take]
   refine Nat.le_trans (Nat.min_le_right _ _) ?_
   rw[List.getD_eq_getElem?_getD]
   cases h:D.next[k]? with
   | none=>simp
   | some r=>exact hrl r (List.mem_of_getElem? h)
  have h4:(D.next.take k).length≤65536:=Nat.le_trans (List.length_take_le _ _) (by omega)
  have h5:(D.next.take k).length*256≤65536*256:=Nat.mul_le_mul_right _ h4
  omega
 ·rw[if_neg ht]
  split
  ·have:=DW (D.label.take k) 0
   have h4:(D.label.take k).length≤k:=List.length_take_le _ _
   omega
  ·simp
theorem Xw{D:aF}(hw:kK D):(∀ t,t<D.label.length→eG D D.label.length 0 t=sQ D t)∧eG D D.label.length 0 D.label.length=lK D:=by
 constructor
 ·intro t ht
  unfold eG sQ
  rw[if_pos ht,List.take_of_length_le (by rw[hw.nx];exact Nat.le_refl _),List.take_zero]
  simp[backTo]
 ·unfold eG lK
  rw[if_neg (Nat.lt_irrefl _),if_pos rfl,List.take_length]
end
section
open Go.RowKit
def stepD(D:aF)(s j:Nat):Nat:=((D.next.getD s []).getD j 0).toNat
structure yV(w:World)(V:au)(D:aF)(n wd lb lo nb no:Nat)(rb ro rc:Nat→Nat):Prop where
 nl:D.label.length=n
 ln:V.ln=n
 nn:V.nn=n
 la:V.la=some ⟨lb,lo,none⟩
 na:V.na=some ⟨nb,no,none⟩
 wide:D.width=(wd:Nat)
 Xx:1≤wd∧wd≤256
 Lm:1≤n∧n≤65536
 lc:n≤V.lc∧V.lc≤9223372036854775807
 nc:n≤V.nc∧V.nc≤9223372036854775807
 lab:∀ k,k<n→∀ u:World,Below w.heap.size w u→u.cell? ⟨lb,lo+k,none⟩=some (.int .i64 (labS D k))
 row:∀ s,s<n→∀ u:World,Below w.heap.size w u→u.cell? ⟨nb,no+s,none⟩=some (.slice (some ⟨rb s,ro s,none⟩) wd (rc s))
 cap:∀ s,s<n→wd≤rc s∧rc s≤9223372036854775807
 Xy:∀ s,s<n→∀ j,j<wd→∀ u:World,Below w.heap.size w u→u.cell? ⟨rb s,ro s+j,none⟩=some (.int .i64 (stepD D s j:Nat))
 lt:∀ s,s<n→∀ j,j<wd→stepD D s j<n
 of:∀ b,b<256→D.of b<wd
 aje:∀ s,s<n→0≤labS D s∧labS D s≤64
 blk:lb<w.heap.size∧nb<w.heap.size∧∀ s,s<n→rb s<w.heap.size
theorem yV.ajf{w:World}{V:au}{D:aF}{n wd lb lo nb no:Nat}{rb ro rc:Nat→Nat}(h:yV w V D n wd lb lo nb no rb ro rc){s:Nat}(hs:s<n)(b:UInt8):mV D s b<n:=h.lt s hs _ (h.of _ b.toNat_lt)
theorem yV.later{w w2:World}{V:au}{D:aF}{n wd lb lo nb no:Nat}{rb ro rc:Nat→Nat}(h:yV w V D n wd lb lo nb no rb ro rc)(hb:Below w.heap.size w w2):yV w2 V D n wd lb lo nb no rb ro rc :=
 have hs:=hb.size
 ⟨h.nl,h.ln,h.nn,h.la,h.na,h.wide,h.Xx,h.Lm,h.lc,h.nc,fun k hk u hu=>h.lab k hk u (hb.trans (hu.mono hs)),fun k hk u hu=>h.row k hk u (hb.trans (hu.mono hs)),h.cap,fun k hk j hj u hu=>h.Xy k hk j hj u (hb.trans (hu.mono hs)),h.lt,h.of,h.aje,
  ⟨Nat.lt_of_lt_of_le h.blk.1 hs,Nat.lt_of_lt_of_le h.blk.2.1 hs,fun s h1=>Nat.lt_of_lt_of_le (h.blk.2.2 s h1) hs⟩⟩
theorem machC{w:World}{V:au}{D:aF}(h:kJ w V D)(hw:kK D):∃ n wd lb lo nb no rb ro rc,yV w V D n wd lb lo nb no rb ro rc:=by
 obtain⟨_,hwd,h3,_,rows,h5,h6,h7⟩:=h
 obtain⟨lb,lo,e3,c3,c3',a3,k3⟩:=h3.dG
 obtain⟨nb,no,e5,c5,c5',a5,k5⟩:=h5.dG
 have hpos:=hw.pos
 have hnx:=hw.nx
 have am5:=hw.of 0 (by decide)
 obtain⟨wd,hwd2⟩:∃ wd:Nat,D.width=(wd:Nat):=⟨D.width.toNat,by have:=hw.wd;omega⟩
 have hrow:∀ s,∃ rb ro rc,s<D.label.length→(rows.getD s (.int .i64 0)=.slice (some ⟨rb,ro,none⟩) wd rc)∧wd≤rc∧rc≤9223372036854775807∧∀ j,j<wd→∀ u:World,Below w.heap.size w u→u.cell? ⟨rb,ro+j,none⟩=some (.int .i64 (stepD D s j:Nat)):=fun s=>by
  by_cases hs:s<D.label.length
  ·have hs1:s<rows.length:=by omega
   have hs2:s<D.next.length:=by omega
   obtain⟨a,c,hr,hsl⟩:=h7 s hs1 hs2
   have hl:=hw.Gx _ (List.getElem_mem hs2)
   have xK:(D.next[s]).length=wd:=by omega
   obtain⟨rb,ro,e,q1,q2,ha,hc⟩:=hsl.dG
   obtain rfl:=ha 0 (by omega)
   refine⟨rb,ro,c,fun _=>⟨?_,by omega,q2,fun j hj u hu=>?_⟩⟩
   ·rw[List.getD_eq_getElem?_getD,List.getElem?_eq_getElem hs1,Option.getD_some,hr,xK]
   ·have hj2:j<(D.next[s]).length:=by omega
    rw[hc j hj2 u hu]
    have ht:=hw.row _ (List.getElem_mem hs2) _ (List.getElem_mem hj2)
    have e:((stepD D s j:Nat):Int)=D.next[s][j]:=by
     unfold stepD
     simp only[List.getD_eq_getElem?_getD,List.getElem?_eq_getElem hs2,Option.getD_some,List.getElem?_eq_getElem hj2]
     omega
    rw[e]
  ·exact⟨0,0,0,fun h=>absurd h hs⟩
 have hr1:∃ f:Nat→Nat×Nat×Nat,∀ s,s<D.label.length→(rows.getD s (.int .i64 0)=.slice (some ⟨(f s).1,(f s).2.1,none⟩) wd (f s).2.2)∧wd≤(f s).2.2∧(f s).2.2≤9223372036854775807∧∀ j,j<wd→∀ u:World,Below w.heap.size w u→u.cell? ⟨(f s).1,(f s).2.1+j,none⟩=some (.int .i64 (stepD D s j:Nat)):=by
  have:∀ s,∃ p:Nat×Nat×Nat,s<D.label.length→(rows.getD s (.int .i64 0)=.slice (some ⟨p.1,p.2.1,none⟩) wd p.2.2)∧wd≤p.2.2∧p.2.2≤9223372036854775807∧∀ j,j<wd→∀ u:World,Below w.heap.size w u→u.cell? ⟨p.1,p.2.1+j,none⟩=some (.int .i64 (stepD D s j:Nat)):=fun s=>by
   obtain⟨rb,ro,rc,h⟩:=hrow s
   exact⟨(rb,ro,rc),h⟩
  exact Classical.axiomOfChoice this
 obtain⟨f,hf⟩:=hr1
 have hcl:∀ s,s<D.label.length→∀ u:World,Below w.heap.size w u→u.cell? ⟨nb,no+s,none⟩=some (.slice (some ⟨(f s).1,(f s).2.1,none⟩) wd (f s).2.2):=fun s hs u hu=>by
  have hs1:s<rows.length:=by omega
  rw[k5 s hs1 u hu,←(hf s hs).1,List.getD_eq_getElem?_getD,List.getElem?_eq_getElem hs1];rfl
 have hst:∀ s,s<D.label.length→∀ j,j<wd→stepD D s j<D.label.length:=fun s hs j hj=>by
  have hs2:s<D.next.length:=by omega
  have hl:=hw.Gx _ (List.getElem_mem hs2)
  have hj2:j<(D.next[s]).length:=by omega
  have ht:=hw.row _ (List.getElem_mem hs2) _ (List.getElem_mem hj2)
  unfold stepD
  simp only[List.getD_eq_getElem?_getD,List.getElem?_eq_getElem hs2,Option.getD_some,List.getElem?_eq_getElem hj2]
  omega
 refine⟨D.label.length,wd,lb,lo,nb,no,fun s=>(f s).1,fun s=>(f s).2.1,fun s=>(f s).2.2,rfl,e3,by omega,a3 0 (by omega),a5 0 (by omega),hwd2,⟨by omega,by have:=hw.wd;omega⟩,⟨hpos,hw.le⟩,⟨by omega,c3'⟩,⟨by omega,c5'⟩,fun k hk u hu=>?_,hcl,fun s hs=>⟨(hf s hs).2.1,(hf s hs).2.2.1⟩,fun s hs=>(hf s hs).2.2.2,hst,fun b hb=>by have:=hw.of b hb;omega,fun s hs=>?_,?_,?_,fun s hs=>?_⟩
 ·rw[kK.OX hk];exact k3 k hk u hu
 ·rw[kK.OX hs]
  have:=hw.lab _ (List.getElem_mem hs)
  have:=hw.names
  omega
 ·exact World.block_lt_of_cell? w _ (k3 0 (by omega) w (Below.refl _ _))
 ·exact World.block_lt_of_cell? w _ (hcl 0 (by omega) w (Below.refl _ _))
 ·exact World.block_lt_of_cell? w _ ((hf s hs).2.2.2 0 (by omega) w (Below.refl _ _))
end
section
open Go.RowKit
theorem Lp(D:aF)(s:Nat)(v:List UInt8)(b:UInt8):bK D s (v++[b])=mV D (bK D s v) b:=by rw[QU];rfl
theorem yV.run{w:World}{V:au}{D:aF}{n wd lb lo nb no:Nat}{rb ro rc:Nat→Nat}(h:yV w V D n wd lb lo nb no rb ro rc):∀ (v:List UInt8) {s:Nat},s<n→bK D s v<n
 | [],_,hs=>hs
 | b::v,_,hs=>h.run v (h.ajf hs b)
end
section
open Go.RowKit
theorem wC(l:List Nat):(l.map fun k:Nat=>(k:Int)).map (Value.int .i64)=l.flatMap aI:=by
 induction l with
 | nil=>rfl
 | cons x l ih=>rw[List.map_cons,List.map_cons,ih,List.flatMap_cons];rfl
theorem Xz(l:List Nat)(b0:Nat)(a:Option Addr)(n cap:Nat)(w:World)(h:Own w b0 3 1 aI (.slice a n cap) l)(hl:l.length≤1099511627776) :
  Calls Tryz.prog 80 #[.slice a n cap] w (gu w 3 1 aI l):=by
 have hs:=h.slice dF
 obtain⟨a',cap',hv,hle,hm,hh⟩:=h
 obtain⟨rfl,rfl,rfl⟩:=Value.slice.inj hv
 rcases hh with⟨rfl,rfl⟩ | ⟨g,cur,rfl,hbg,hg,hcs,hx⟩
 ·obtain rfl:l=[]:=List.eq_nil_of_length_eq_zero (by omega)
  refine(Tryz.slices_Clone_int_nil 0 0 w).mono fun e w' ⟨he,hw⟩=>?_
  exact⟨none,0,he,Own.nil _ _ _ _ _,hw▸Below.refl _ _⟩
 ·have:=Tryz.slices_Clone_int g 0 l.length cap (l.map fun k:Nat=>(k:Int)) w (by simp) (by omega) (fun j hj=>by
   have hj2:j<l.length:=by simpa using hj
   have h2:=hx j hj2 0 (by decide)
   rw[hg.cell,show 0+j=j*1+0 by omega,h2]
   simp[List.getD,hj2,aI])
  refine this.mono fun e w' he=>?_
  obtain⟨v',rfl,hr,hv,hB⟩:=he
  rw[List.take_of_length_le (by simp),wC] at hr
  have ho:Own w' w.heap.size 3 1 aI v' l:=Own.ofRow hr dF
  obtain⟨a',c',rfl⟩:=ho.form
  exact⟨a',c',rfl,ho,hB⟩
def EL(b:Bool):List Value:=[.bool b]
theorem OZ:eH EL 1:=⟨fun _=>rfl,fun x u hu=>by simp[EL] at hu;subst hu;rfl⟩
theorem Lr:dQ Tryz.prog 119 4 (.bool false) 1 1:=⟨Tryz.underlying119,info_parts (by kernel_rfl),rfl,by decide⟩
def pq(n:Nat)(ws:List Nat):List Bool:=(List.range n).map fun s=>ws.contains s
theorem nU(n:Nat)(ws:List Nat):(pq n ws).length=n:=by unfold pq;simp
theorem BL(n:Nat)(ws:List Nat)(s:Nat)(h:s<(pq n ws).length):(pq n ws)[s]=ws.contains s:=by unfold pq;simp
theorem O1(n:Nat):pq n []=List.replicate n false:=by
 unfold pq
 exact List.eq_replicate_iff.2 ⟨by simp,fun b hb=>by obtain⟨_,_,h⟩:=List.mem_map.1 hb;simpa using h.symm⟩
theorem Gz(n:Nat)(ws:List Nat)(t:Nat):(pq n ws).set t true=pq n (ws++[t]):=by
 apply List.ext_getElem
 ·simp[pq]
 ·intro i h1 h2
  rw[List.getElem_set,BL,BL]
  by_cases e:t=i
  ·subst e;simp
  ·rw[if_neg e,Bool.eq_iff_iff]
   simp only[List.contains_iff_mem,List.mem_append,List.mem_cons,List.not_mem_nil,or_false]
   exact⟨.inl,fun h=>h.elim id fun h=>absurd h.symm e⟩
structure lY(base n0 n tb:Nat)(W0:World)(X:Nat→Prop)(tv:Value)(ss ws:List Nat)(wr:World):Prop where
 there:Own wr base 4 1 EL (.slice (some ⟨tb,0,none⟩) n n) (pq n ss)
 waits:Own wr base 3 1 aI tv ws
 own:∀ b,X b↔b=tb∨tv.ownBlock=some b
 keep:∀ b,b<n0→wr.heap[b]?=W0.heap[b]?
 size:base≤wr.heap.size∧n0≤base
theorem lY.same{base n0 n tb:Nat}{W0:World}{X:Nat→Prop}{tv:Value}{ss ws:List Nat}{wr w2:World}(h:lY base n0 n tb W0 X tv ss ws wr)(hs:wr.heap.size≤w2.heap.size)(hk:∀ b,X b∨b<n0→w2.heap[b]?=wr.heap[b]?):lY base n0 n tb W0 X tv ss ws w2 :=
 ⟨h.there.same fun g hg=>hk g (.inl ((h.own g).2 (.inl (by cases hg;rfl)))),h.waits.same fun g hg=>hk g (.inl ((h.own g).2 (.inr hg))),h.own,fun b hb=>(hk b (.inr hb)).trans (h.keep b hb),⟨Nat.le_trans h.size.1 hs,h.size.2⟩⟩
theorem lY.blk{base n0 n tb:Nat}{W0:World}{X:Nat→Prop}{tv:Value}{ss ws:List Nat}{wr:World}(h:lY base n0 n tb W0 X tv ss ws wr){b:Nat}(hx:X b):base≤b∧b<wr.heap.size:=by
 rcases (h.own b).1 hx with rfl | e
 ·exact h.there.blk rfl
 ·exact h.waits.blk e
theorem lY.kept{base n0 n tb:Nat}{W0:World}{X:Nat→Prop}{tv:Value}{ss ws:List Nat}{wr w2:World}(h:lY base n0 n tb W0 X tv ss ws wr)(hb:Below wr.heap.size wr w2):lY base n0 n tb W0 X tv ss ws w2 :=
 h.same hb.size fun b hx=>hb.block b (by
  rcases hx with hx | hx
  ·exact(h.blk hx).2
  ·have:=h.size;omega)
theorem lY.aeB{base n0 n tb:Nat}{W0:World}{X:Nat→Prop}{tv:Value}{ss ws:List Nat}{wr:World}(h:lY base n0 n tb W0 X tv ss ws wr):tv.ownBlock≠some tb:=fun e=>by
 obtain⟨_,c1,b1⟩:=h.waits.block _ e
 obtain⟨_,c2,b2⟩:=h.there.block tb rfl
 exact absurd (b1.jC b2) (by decide)
theorem lY.mark{base n0 n tb:Nat}{W0:World}{X:Nat→Prop}{tv:Value}{ss ws:List Nat}{wr:World}(h:lY base n0 n tb W0 X tv ss ws wr){t:Nat}(ht:t<n) :
  lY base n0 n tb W0 X tv (ss++[t]) ws (wr.setCell ⟨tb,t,none⟩ (.bool true))∧MS X X wr (wr.setCell ⟨tb,t,none⟩ (.bool true)) (some tb):=by
 have hl:=nU n ss
 have h1:=h.there.store1 (i:=t) (j:=0) (by rw[hl];exact ht) (by decide) true (.bool true) (fun k hk=>by
  have hk0:k=0:=Nat.lt_one_iff.1 hk
  subst hk0
  rfl)
 rw[Gz,show t*1+0=t by omega] at h1
 have hne:=h.aeB
 have hlt:=h.there.blk (g:=tb) rfl
 have hsz:=h.size
 have ho:∀ b,b≠tb→(wr.setCell ⟨tb,t,none⟩ (.bool true)).heap[b]?=wr.heap[b]?:=fun b hb=>heap_setCell_other _ _ _ _ hb
 refine⟨⟨h1,h.waits.same fun g hg=>ho g fun e=>hne (e▸hg),h.own,fun b hb=>(ho b (by omega)).trans (h.keep b hb),by rw[World.size_setCell];exact hsz⟩,⟨⟨rfl,rfl,rfl,Nat.le_of_eq (World.size_setCell _ _ _).symm,fun k _ hk=>ho k fun e=>hk (by rw[e])⟩,fun r e=>?_,fun b hb=>.inl hb⟩⟩
 cases e
 exact(h.own tb).2 (.inl rfl)
theorem lY.wait{base n0 n tb:Nat}{W0:World}{X:Nat→Prop}{tv tv':Value}{ss ws ws':List Nat}{wr w1 w2:World}(h:lY base n0 n tb W0 X tv ss ws wr)(hb:Below wr.heap.size wr w1)(ho:Own w2 base 3 1 aI tv' ws')(hg:w1.grownBy w2 tv.ownBlock)(hf:tv'.ownBlock=tv.ownBlock∨tv'.ownBlock=some w1.heap.size) :
  lY base n0 n tb W0 (fun b=>b=tb∨tv'.ownBlock=some b) tv' ss ws' w2∧MS X (fun b=>b=tb∨tv'.ownBlock=some b) wr w2 tv.ownBlock:=by
 have h1:=h.kept hb
 have hne:=h.aeB
 have hsz:=h.size
 have hs:=hb.size
 have hs2:=hg.size
 refine⟨⟨h1.there.same fun g hgg=>hg.block g (h1.there.blk hgg).2 fun e=>?_,ho,fun b=>Iff.rfl,fun b hb'=>(hg.block b (by omega) fun e=>?_).trans (h1.keep b hb'),⟨by omega,hsz.2⟩⟩,⟨⟨hg.os.trans hb.os,hg.tape.trans hb.tape,hg.output.trans hb.output,by omega,fun k hk hn=>(hg.block k (by omega) hn).trans (hb.block k hk)⟩,fun r e=>(h.own r).2 (.inr e),fun b hb'=>?_⟩⟩
 ·cases hgg;exact hne e.symm
 ·have:=(h.waits.blk e.symm).1;omega
 ·rcases hb' with rfl | e
  ·exact .inl ((h.own _).2 (.inl rfl))
  ·rcases hf with e2 | e2
   ·exact .inl ((h.own b).2 (.inr (e2▸e)))
   ·rw[e2] at e;cases e
    have:=(ho.blk e2).2
    exact .inr ⟨hs,this⟩
theorem Own.IX{w:World}{base E n cap:Nat}{a:Option Addr}{xs:List Nat}(h:Own w base E 1 aI (.slice a n cap) xs) :
  n=xs.length∧xs.length≤cap∧cap≤9223372036854775807∧∃ g,(∀ i,i<xs.length→a=some ⟨g,0,none⟩∧g<w.heap.size)∧∀ (u:World) (i:Nat) (h:i<xs.length),u.heap[g]?=w.heap[g]?→u.cell? ⟨g,i,none⟩=some (.int .i64 (xs[i]:Nat)):=by
 obtain⟨h1,h2,h3,g,cur,ha,hx⟩:=h.open
 refine⟨h1,h2,h3,g,fun i hi=>⟨ha i hi,(hx (by omega)).2.1.lt⟩,fun u i hi hu=>?_⟩
 obtain⟨_,hb,_,hc⟩:=hx (by omega)
 have h4:=hc i hi 0 (by decide)
 rw[show i*1+0=i by omega] at h4
 rw[World.cell?_of_block hu,hb.cell,h4]
 simp[aI]
def ajg(og:Nat)(O4:Array Value)(on:Nat→List Nat)(n n0:Nat)(W0:World):Prop :=
 ∀ s,s<n→∃ (a:Option Addr) (c:Nat),∀ u:World,(∀ b,b<n0→u.heap[b]?=W0.heap[b]?)→ak u (.slice a (on s).length c) 1 aI (on s)∧Calls Tryz.prog og (#[.int .i64 s]++O4) u fun e w'=>e=.returned (.slice a (on s).length c)∧w'=u
abbrev lM(b:Nat):Value:=.pointer (some ⟨b,0,none⟩)
theorem ZV(on:Nat→List Nat)(n n0:Nat)(hn:n≤65536)(fr:List Nat)(og:Nat)(O4:Array Value)(eg:∀ args w,(callFunc og args).run Tryz.prog w=.ok (.enter og args) w)(Bn Bf Bo fb:Nat)(fa:Option Addr)(fc:Nat)(W:World)(hn0:n0≤W.heap.size)
  (hbn:Box W Bn #[.int .i64 n] 3) (hbf:Box W Bf #[.slice fa fr.length fc] 24) (XA:Box W Bo #[.func (.func og) #[] O4] 194) (hbl:Bn<n0∧Bf<n0∧Bo<n0) (hf:Own W fb 3 1 aI (.slice fa fr.length fc) fr) (hfl:∀ g,(Value.slice fa fr.length fc).ownBlock=some g→g<n0)
  (hnd:fr.Nodup) (hlt:∀ x∈fr,x<n) (hon:ajg og O4 on n n0 W) (aeC:∀ x,x<n→∀ t∈on x,t<n)
  (l:Nat) (J:List Nat→(Nat→Prop)→World→Prop) (hT:∀ s X X' A B row,J s X A→MS X X' A B row→J s X' B) (hL:∀ s X A,J s X A→∀ b,X b→b<A.heap.size)
  (hY:∀ pre x X W1,J pre X W1→pre.length<n→YieldAt Fence.wide 0 Tryz.prog l (oU x) W1 fun e W'=>e=.returned (.bool true)∧J (pre++[x]) X W'∧W1.heap.size≤W'.heap.size∧∀ b,(X b∨b<n0)→W'.heap[b]?=W1.heap[b]?) (h0:J [] (fun _=>False) W) :
  Calls Tryz.prog 164 #[.func (.yield l) #[] #[],lM Bn,lM Bf,lM Bo] W fun e W'=>(∃ v,e=.returned v)∧∃ xs X,xs=kZ on n 0 fr∧J xs X W':=by
 have hfn:=nodup_lt_length n fr hnd hlt
 obtain⟨h1,h2,h3⟩:=hbl
 have x1:W.cell? ⟨Bn,0,none⟩=some (.int .i64 n):=hbn.cell 0
 have XB:=ah hbf;have DX:=ah XA;have HF:=ah hf;have Dw:=ah hfl;have HND:=ah hnd;have XC:=ah hlt;have Fq:=ah hon;have ajh:=ah aeC;have RY:=ah hT;have HLL:=ah hL;have HYY:=ah hY;have H0:=ah h0
 clear hbf XA hf hfl hnd hlt hon aeC hT hL hY h0 hbn
 have hbW:=XB.out.lt
 go_enter Tryz.func164,Tryz.ntmps164
 go_wp2_with (refine oJ rfl 119 _ _ rfl Lr OZ false rfl n rfl rfl (by omega) (by simp only[maxLen];omega) W.heap.size (Nat.le_refl _) ?_;intro w1 hm1 hw1;have hb1:Below W.heap.size W w1:=by { rw[hw1];exact aj _ _ };have y1:w1.cell? ⟨Bf,0,none⟩=some (.slice fa fr.length fc):=(XB.out.kept hb1).cell 0;have hj1:J [] (fun b=>b=W.heap.size) w1:=RY.out _ _ _ _ _ none H0.out ⟨⟨hb1.os,hb1.tape,hb1.output,hb1.size,fun k hk _=>hb1.block k hk⟩,(fun _ e=>by cases e),fun b hb=>.inr ⟨Nat.le_of_eq hb.symm,by rw[show b=_ from hb,hw1,World.size_alloc];omega⟩⟩;have hs1:w1.heap.size=W.heap.size+1:=by { rw[hw1,World.size_alloc] };have Af:=ah hm1;have HJ1:=ah hj1;have HB1:=ah hb1;clear hw1 hm1 hj1 hb1 x1)
 refine(Xz fr fb fa fr.length fc w1 (HF.out.kept HB1.out) (by omega)).mono ?_
 rintro e w2 ⟨ca,cc,rfl,ho2,hb2⟩
 have y2:w2.cell? ⟨Bf,0,none⟩=some (.slice fa fr.length fc):=((XB.out.kept HB1.out).kept hb2).cell 0
 have hw2:lY W.heap.size n0 n W.heap.size W (fun b=>b=W.heap.size∨(Value.slice ca fr.length cc).ownBlock=some b) (.slice ca fr.length cc) [] fr w2:=by
  refine⟨?_,ho2.mono (by omega),fun _=>Iff.rfl,fun b hb=>(hb2.block b (by omega)).trans (HB1.out.block b (by omega)),by have:=hb2.size;omega,hn0⟩
  rw[O1]
  exact Af.out.kept hb2
 have hj2:J [] (fun b=>b=W.heap.size∨(Value.slice ca fr.length cc).ownBlock=some b) w2:=RY.out _ _ _ _ _ none HJ1.out ⟨⟨hb2.os,hb2.tape,hb2.output,hb2.size,fun k hk _=>hb2.block k hk⟩,(fun _ e=>by cases e),fun b hb=>by
  rcases hb with h | h
  ·exact .inl h
  ·exact .inr (ho2.blk h)⟩
 have HW2:=ah hw2;have HJ2:=ah hj2
 obtain⟨_,hfc,aeD,ZW,hfa,hfx⟩:=HF.out.IX
 have XD:∀ (u:World) (k:Nat) (hk:k<fr.length),(∀ b,b<n0→u.heap[b]?=W.heap[b]?)→u.cell? ⟨ZW,k,none⟩=some (.int .i64 (fr[k]:Nat)):=fun u k hk hu =>
  hfx u k hk (hu ZW (Dw.out ZW (by rw[(hfa k hk).1];rfl)))
 have HFC:=ah XD;have Am:=ah hfa
 clear hw2 hj2 ho2 hb2 XD hfa hfx Af HJ1 HB1 HF y1 hs1
 obtain⟨m,hm⟩:∃ m,fr.length=m:=⟨_,rfl⟩
 have HLEN:=ah hm
 rw[hm] at hfc y2 hfn
 simp only[hm]
 go_wp2
 go_loopw [18] (fun i wr=>∃ k:Nat,k≤m∧i=.int .i64 k∧lY W.heap.size n0 n W.heap.size W (fun b=>b=W.heap.size∨(Value.slice ca m cc).ownBlock=some b) (.slice ca m cc) (fr.take k) fr wr∧J [] (fun b=>b=W.heap.size∨(Value.slice ca m cc).ownBlock=some b) wr) (fun i _=>m - (intOf i).toNat)
 case atStart=>exact⟨0,Nat.zero_le _,rfl,by rw[←HLEN.out];exact HW2.out,by rw[←HLEN.out];exact HJ2.out⟩
 case round =>
  obtain⟨k,hk,rfl,hw,hj⟩:=hrel
  by_cases hlt:k<m
  ·have hlk:k<fr.length:=by rw[HLEN.out];exact hlt
   obtain⟨hfe,am6⟩:=Am.out k hlk
   subst hfe
   have c0:=HFC.out wr k hlk hw.keep
   have htk:fr.take (k+1)=fr.take k++[fr[k]]:=List.take_succ_eq_append_getElem hlk
   have hsn:=XC.out _ (List.getElem_mem hlk)
   generalize fr[k]=s at *
   have hsl:=nU n (fr.take k)
   obtain⟨g1,g2,g3,g4⟩:=hw.there.cellAt (i:=s) (j:=0) (by rw[hsl];exact hsn) (by decide)
   rw[show s*1+0=s by omega] at g1 g2
   obtain⟨m1,m2⟩:=hw.mark hsn
   have hj2:=RY.out _ _ _ _ _ _ hj m2
   have am7:=World.block_lt_of_cell? wr _ c0
   have g1':wr.cell? ⟨W.heap.size,s,none⟩=some (.bool ((pq n (fr.take k))[s]'(by rw[hsl];exact hsn))):=by rw[g1];rfl
   have Af:=ah m1;have HJ1:=ah hj2;have wF:=ah htk
   clear m1 m2 hj2 htk hw hj g1
   have hki:(k:Int)<(m:Int):=by omega
   have hk0:(0:Int)≤(k:Int):=by omega
   have hs0:(0:Int)≤(s:Int):=by omega
   have hsi:(s:Int)<(n:Int):=by omega
   go_wp2
   exact⟨⟨k+1,hlt,by push_cast;rfl,by rw[wF.out];exact Af.out,HJ1.out⟩,by simp[intOf];omega⟩
  ·obtain rfl:k=m:=by omega
   rw[←HLEN.out,List.take_length] at hw
   rw[←HLEN.out] at hj
   obtain⟨R,hR⟩:∃ R,kZ on n 0 fr=R:=⟨_,rfl⟩
   have HW:=ah hw;have HJ:=ah hj;have HR:=ah hR;have RG:=ah hfn
   clear hw hj hR HFC Am HW2 HJ2 y2 hfc aeD hlt hfn
   go_wp2
   go_loopw [6,9] (fun v6 v9 wr=>∃ (f i:Nat) (ws:List Nat) (X:Nat→Prop) (a:Option Addr) (c:Nat),v6=.slice a ws.length c∧v9=.int .i64 i∧i≤ws.length∧lY W.heap.size n0 n W.heap.size W X (.slice a ws.length c) ws ws wr∧J (ws.take i) X wr∧kZ on f i ws=R∧f+i=n∧ws.Nodup∧∀ x∈ws,x<n) (fun _ v9 _=>n - (intOf v9).toNat)
   case atStart=>exact⟨n,0,fr,_,ca,cc,by rw[HLEN.out],rfl,Nat.zero_le _,HW.out,HJ.out,HR.out,rfl,HND.out,XC.out⟩
   case round =>
    obtain⟨f,i,ws,X,a,c,rfl,rfl,hi,hw,hj,hr,hfi,hnd,hlt⟩:=hrel
    have hwn:=nodup_lt_length n ws hnd hlt
    obtain⟨_,hfc,aeD,wb,XE,hwx⟩:=hw.waits.IX
    by_cases J7:i<ws.length
    ·obtain⟨hwe,hwl⟩:=XE i J7
     subst hwe
     have c0:=hwx wr i J7 rfl
     have hsn:=hlt _ (List.getElem_mem J7)
     obtain⟨fn,tmps,assign,body,hy,hRo⟩:=HYY.out (ws.take i) ws[i] X wr hj (by rw[List.length_take];omega)
     rw[show ws.take i++[ws[i]]=ws.take (i+1) from(List.take_succ_eq_append_getElem J7).symm] at hRo
     have hii:(i:Int)<(ws.length:Int):=by omega
     have hi0:(0:Int)≤(i:Int):=by omega
     obtain⟨f,rfl⟩:∃ f',f=f'+1:=⟨f - 1,by omega⟩
     rw[kZ,List.getElem?_eq_getElem J7] at hr
     dsimp only at hr
     obtain⟨s,hs⟩:∃ s,ws[i]=s:=⟨_,rfl⟩
     rw[hs] at c0 hsn hy hr
     have HS:=ah hs;have HWX:=ah hwx;have HWK:=ah hw;have HR2:=ah hr;have aeF:=ah hnd;have aeG:=ah hlt
     clear hs hwx hw hr hnd hlt hj XE
     go_wp2
     rename_i wH am8
     refine wp_scope_straight ?_
     refine(wpIn_wide (n:=0)).1 ?_
     gi_wp2_with (refine⟨rfl,?_⟩;refine hRo.mono ?_;clear hRo;rintro e w2 ⟨rfl,hj2,hs2,hk2⟩)
     refine wpIn_wide.2 ?_
     refine wp_label ?_
     have hw2:=HWK.out.same hs2 hk2
     obtain⟨oa,oc,ZX⟩:=Fq.out s hsn
     have HW2:=ah hw2;have HJ2:=ah hj2;have HOO:=ah ZX
     have hD2:Below w2.heap.size w2 w2.drew:=(Below.refl _ _).drew
     have HF2:Hid (∀ u,Later w2.drew u→Box u Bo #[.func (.func og) #[] O4] 194∧u.cell? ⟨wb,i,none⟩=some (.int .i64 s)∧ak u (.slice oa (on s).length oc) 1 aI (on s)∧Calls Tryz.prog og (#[.int .i64 s]++O4) u (bV u (.slice oa (on s).length oc))∧Below w2.heap.size w2 u):=ah fun u hl=>by
      have h1:Below w2.heap.size w2 u:=hD2.trans (hl.mono hD2.size)
      have h3:=hw2.kept h1
      obtain⟨a1,a2⟩:=ZX u h3.keep
      refine⟨(h3.keep Bo (by omega)).trans DX.out,?_,a1,a2.mono fun e w' ⟨b1,b2⟩=>⟨b1,b2▸Below.refl _ _⟩,h1⟩
      have e1:=HWX.out u i J7 (((h1.block wb (by omega)).trans (hk2 wb (.inl ((HWK.out.own wb).2 (.inr rfl))))))
      rwa[HS.out] at e1
     clear hw2 hj2 ZX hs2 hk2 hD2 c0
     go_wp2_with fail
     refine wpIn_wide.2 ?_
     go_wp2_with fail
     refine aW (R:=Later) 8 (by kernel_rfl) ?_
     refine pl [0,1,2,3,4,7] ?_
     repeat
      refine jW ?_ rfl (fun w1 hl=>?_) ?_
      rotate_left
      ·obtain⟨hX,hc,_,_,_⟩:=HF2.out w1 hl;have y2:w1.cell? ⟨Bo,0,none⟩=some (.func (.func og) #[] O4):=hX.cell 0;go_simp;try with_reducible rfl
      simp only[eA,eB,eC,Act.put,eD,eE,eF]
     refine eX ?_
     refine clM 5 ?_ ?_ ?_ rfl (fun w1=>?_) (fun w1 hl=>?_) ?_
     rotate_left 4
     ·exact(HF2.out w1 hl).2.2.2.1
     rotate_left
     ·go_simp
     simp only[eA,eB,eC,Act.put,eD,eE,eF]
     refine kP 6 ?_ rfl (fun w1 hl=>?_) ?_
     rotate_left
     ·skip;go_simp;try with_reducible rfl
     simp only[eA,eB,eC,Act.put,eD,eE,eF]
     refine bC (by kernel_rfl) (fun w1 hl=>?_) _
     obtain⟨_,_,hsl,_,pz⟩:=HF2.out w1 hl
     have hw3:=HW2.out.kept pz
     have hj3:=RY.out _ _ X _ _ none HJ2.out ⟨⟨pz.os,pz.tape,pz.output,pz.size,fun k hk _=>pz.block k hk⟩,(fun _ e=>by cases e),fun b hb=>.inl hb⟩
     obtain⟨_,_,_,hm2,IE,_,_⟩:=hsl.open
     have hL:=ajh.out s hsn
     obtain⟨L,hLL⟩:∃ L,on s=L:=⟨_,rfl⟩
     rw[hLL] at HOO HR2 hL hm2 ⊢
     obtain⟨m2,ZY⟩:∃ m2,L.length=m2:=⟨_,rfl⟩
     have HW3:=ah hw3;have HJ3:=ah hj3;have Ii:=ah ZY;have Z4:=ah hL
     rw[ZY] at hm2 ⊢
     clear hw3 hj3 hl pz HF2 hsl ZY hLL hL HW2 HJ2
     go_wp2
     go_loopw [6,46] (fun v6 v46 wr=>∃ (j:Nat) (ws':List Nat) (X':Nat→Prop) (a':Option Addr) (c':Nat),v6=.slice a' ws'.length c'∧v46=.int .i64 j∧j≤m2∧ws'=jS (L.take j) ws∧lY W.heap.size n0 n W.heap.size W X' (.slice a' ws'.length c') ws' ws' wr∧J (ws.take (i+1)) X' wr) (fun _ v46 _=>m2 - (intOf v46).toNat)
     case atStart=>exact⟨0,ws,X,_,_,rfl,rfl,Nat.zero_le _,rfl,HW3.out,HJ3.out⟩
     case round =>
      obtain⟨j,ws',X',a',c',rfl,rfl,hj,hws,hw,hJ⟩:=hrel
      by_cases BM:j<m2
      ·have hjl:j<L.length:=by rw[Ii.out];exact BM
       obtain⟨ob,oo,_,_,_,hoa,hox⟩:=((HOO.out wr hw.keep).1).dG
       obtain rfl:=hoa j hjl
       have c0:=hox j hjl wr (Below.refl _ _)
       have hob:=World.block_lt_of_cell? wr _ c0
       have htn:L[j]<n:=Z4.out _ (List.getElem_mem hjl)
       have hws2:jS (L.take (j+1)) ws=if ws'.contains L[j] then ws' else ws'++[L[j]]:=by rw[List.take_succ_eq_append_getElem hjl,DL,←hws];rfl
       generalize L[j]=t at *
       have hsl:=nU n ws'
       have hnd':ws'.Nodup:=by rw[hws];exact vC _ _ aeF.out
       have hlt':∀ x∈ws',x<n:=fun x hx=>by
        rw[hws,rJ] at hx
        exact hx.elim (aeG.out x) fun hx=>Z4.out x (List.mem_of_mem_take hx)
       have am9:=nodup_lt_length n ws' hnd' hlt'
       obtain⟨g1,g2,g3,g4⟩:=hw.there.cellAt (i:=t) (j:=0) (by rw[hsl];exact htn) (by decide)
       rw[show t*1+0=t by omega] at g1 g2
       have g1':wr.cell? ⟨W.heap.size,t,none⟩=some (.bool (ws'.contains t)):=by rw[g1,BL];rfl
       have hji:(j:Int)<(m2:Int):=by omega
       have hj0:(0:Int)≤(j:Int):=by omega
       have ht0:(0:Int)≤(t:Int):=by omega
       have hti:(t:Int)<(n:Int):=by omega
       clear g1 hnd' hlt'
       cases hct:ws'.contains t with
       | true =>
        rw[hct] at g1'
        rw[hct,if_pos rfl] at hws2
        have HW4:=ah hw;have HJ4:=ah hJ;have HWS:=ah hws2
        clear hw hJ hws hws2 hct
        go_wp2
        exact⟨⟨j+1,ws',X',a',c',rfl,by push_cast;rfl,BM,HWS.out.symm,HW4.out,HJ4.out⟩,by simp[intOf];omega⟩
       | false =>
        rw[hct] at g1'
        rw[hct,if_neg (by simp)] at hws2
        obtain⟨m1,m3⟩:=hw.mark htn
        have hj2:=RY.out _ _ _ _ _ _ hJ m3
        have hB1:=aj (wr.setCell ⟨W.heap.size,t,none⟩ (.bool true)) (.cells #[.int .i64 t] 3)
        have ho1:=m1.waits.kept hB1
        have hbs:=m1.size.1
        have HM:=ah m1;have HJM:=ah hj2;have HWS:=ah hws2;have HB:=ah hB1;have Ad:=ah hbs
        clear hw hJ hws hws2 hct m1 m3 hj2 hB1 hbs
        go_wp2_with (at_builtin;go_must (refine dS rfl _ _ 24 rfl iJ dF rfl ho1 ⟨wr.heap.size,0,none⟩ 1 t rfl (by rw[←World.size_setCell wr ⟨W.heap.size,t,none⟩ (.bool true)];exact cZ _ [.int .i64 (t:Nat)] _) (by simp only[maxLen];omega) (by omega) (by rw[World.size_alloc];have:=Ad.out;omega) ?_;intro a7 c7 w7 iy cO qK))
        obtain⟨m4,m5⟩:=HM.out.wait HB.out iy cO qK
        have hj7:=RY.out _ _ _ _ _ _ HJM.out m5
        exact⟨⟨j+1,ws'++[t],_,a7,c7,by rw[List.length_append];rfl,by push_cast;rfl,BM,HWS.out.symm,by rw[List.length_append];exact m4,hj7⟩,by simp[intOf];omega⟩
      ·obtain rfl:j=m2:=by omega
       rw[←Ii.out,List.take_length] at hws
       have hpre:=DN L ws
       rw[←hws] at hpre
       have htk:ws.take (i+1)=ws'.take (i+1):=by
        obtain⟨z,rfl⟩:=hpre
        rw[List.take_append_of_le_length (by omega)]
       have hle:=hpre.length_le
       have hnd':ws'.Nodup:=by rw[hws];exact vC _ _ aeF.out
       have hlt':∀ x∈ws',x<n:=fun x hx=>by
        rw[hws,rJ] at hx
        exact hx.elim (aeG.out x) fun hx=>Z4.out x hx
       have RZ:=HR2.out
       rw[←hws] at RZ
       rw[htk] at hJ
       have HW4:=ah hw;have HJ4:=ah hJ;have aji:=ah hnd';have ajj:=ah hlt';have HR4:=ah RZ
       clear hw hJ hws hpre htk hnd' hlt' RZ
       go_wp2
       refine wH _ _ ?_
       go_wp2
       exact⟨⟨f,i+1,ws',X',a',c',rfl,by push_cast;rfl,by omega,HW4.out,HJ4.out,HR4.out,by omega,aji.out,ajj.out⟩,by simp[intOf];omega⟩
    ·obtain rfl:i=ws.length:=by omega
     rw[List.take_length] at hj
     have hRR:kZ on f ws.length ws=ws:=by
      cases f with
      | zero=>rfl
      | succ f=>rw[kZ,List.getElem?_eq_none (Nat.le_refl _)]
     rw[hRR] at hr
     go_wp2
     go_end0
     exact⟨⟨_,rfl⟩,X,by rw[hr,←HR.out] at hj;exact hj⟩
end
section
open Go.RowKit Go.Shelf
attribute [local go_sem] Oper.semAt_some
def iK(l:List UInt8):List UInt8:=l.takeWhile (· != 10)
theorem Z5(l:List UInt8):(iK l).length≤l.length:=(List.takeWhile_sublist _).length_le
theorem UJ(l:List UInt8):l.take (iK l).length=iK l:=by
 induction l with
 | nil=>rfl
 | cons x l ih =>
  unfold iK at ih ⊢
  rw[List.takeWhile_cons]
  split
  ·rw[List.length_cons,List.take_succ_cons,ih]
  ·rfl
theorem IY:∀ l:List UInt8,Lib.index l [10]=if (iK l).length=l.length then -1 else ((iK l).length:Int)
 | []=>by simp[Lib.index,iK]
 | x::l=>by
  have ih:=IY l
  by_cases h:x=10
  ·subst h;simp[Lib.index,iK]
  ·have hx:Lib.index (x::l) [10]=if Lib.index l [10]=-1 then -1 else Lib.index l [10]+1:=by
    rw[Lib.index]
    simp[Ne.symm h]
   have hl:iK (x::l)=x::iK l:=by unfold iK;rw[List.takeWhile_cons,if_pos (by simpa using h)]
   rw[hx,ih,hl]
   rw[List.length_cons,List.length_cons]
   by_cases h2:(iK l).length=l.length
   ·rw[if_pos h2,if_pos rfl,if_pos (by omega)]
   ·rw[if_neg h2,if_neg (by omega),if_neg (by omega)];rfl
def x9:Nat→Nat→List UInt8→List (Nat×List UInt8)
 | 0,_,_=>[]
 | f+1,at',l=>if l.length=0 then [] else (at',iK l)::x9 f (at'+((iK l).length+1)) (l.drop ((iK l).length+1))
def qM(l:List UInt8):List (Nat×List UInt8):=x9 l.length 0 l
theorem UK(f at':Nat):x9 f at' []=[]:=by cases f <;> rfl
theorem QW(f at':Nat)(l:List UInt8)(h0:l.length≠0):x9 (f+1) at' l=(at',iK l)::x9 f (at'+((iK l).length+1)) (l.drop ((iK l).length+1)):=by rw[x9,if_neg h0]
theorem below_drewN(w:World)(k:Nat){B:Nat}:Below B w (w.drewN k):=⟨rfl,rfl,rfl,Nat.le_refl _,fun _ _=>rfl⟩
theorem Z7(p:Addr)(n c:Nat)(l:List UInt8)(hn:n=l.length):∃ v2 v3,Lib.cutV (some p) n c 1 (Lib.index l [10])=.tuple #[.slice (some p) (iK l).length c,v2,v3]:=by
 rw[IY]
 unfold Lib.cutV
 by_cases h:(iK l).length=l.length
 ·rw[if_pos h,if_neg (by omega),hn,h];exact⟨_,_,rfl⟩
 ·rw[if_neg h,if_pos (by omega),Int.toNat_natCast];exact⟨_,_,rfl⟩
def DY(l:List UInt8)(x:Nat×List UInt8):Prop:=x.1+x.2.length≤l.length∧x.2=(l.drop x.1).take x.2.length
abbrev abP(g:Nat×Nat)(c:Nat)(x:Nat×List UInt8):Array Value:=#[.int .i64 x.1,.slice (some ⟨g.1,g.2+x.1,none⟩) x.2.length (c - x.1)]
def Z8(X:Nat→Prop)(J:List (Nat×List UInt8)→World→Prop)(l:List UInt8)(W wr:World)(i:Value):Prop :=
 ∃ (at' f:Nat) (pre:List (Nat×List UInt8)),i=.int .i64 at'∧at'≤l.length+1∧pre++x9 f at' (l.drop at')=qM l∧(l.drop at').length≤f∧J pre wr∧aJ X W wr
set_option maxRecDepth 100000 in
theorem Z9(n lp bB:Nat)(g:Nat×Nat)(m c:Nat)(l:List UInt8)(hm:m≤65536)(X:Nat→Prop)(hX:¬ X bB∧¬ X g.1∧¬ X 0)(J Jx:List (Nat×List UInt8)→World→Prop)
  (hJ:∀ pre A B,J pre A→A.grownBy B none→J pre B)
  (hY:∀ pre x W,J pre W→pre.length<(qM l).length→DY l x→YieldAt Fence.wide (n - 1) Tryz.prog lp (abP g c x) W fun e W'=>(e=.returned (.bool true)∧J (pre++[x]) W'∧aJ X W W')∨(e=.returned (.bool false)∧Jx (pre++[x]) W'))
  (W:World) (hM:∃ k,W.cell? ⟨0,0,none⟩=some (.int .i64 k)) (hB:Box W bB #[.slice (some ⟨g.1,g.2,none⟩) m c] 35) (hS:ak W (.slice (some ⟨g.1,g.2,none⟩) m c) 1 bT l) (h0:J [] W) :
  CallsIn Fence.wide n Tryz.prog 136 #[.func (.yield lp) #[] #[],.pointer (some ⟨bB,0,none⟩)] W fun e W'=>(∃ v,e=.returned v)∧((∃ ys,ys=qM l∧J ys W')∨(∃ pre,pre <+: qM l∧Jx pre W')):=by
 refine callsIn_of_wp Tryz.func136 rfl trivial ?_ rfl
 simp only[Tryz.ntmps136,List.size_toArray,List.length_cons,List.length_nil,Nat.reduceAdd,Nat.reduceSub,Array.replicate_succ,Array.replicate_zero,List.push_toArray,List.append_toArray,List.nil_append,List.cons_append]
 gi_wp2
 gi_loopw [3] (fun i wr=>Z8 X J l W wr i) (fun i _=>m+1 - (intOf i).toNat)
 case atStart=>exact⟨0,l.length,[],rfl,by omega,rfl,by simp,h0,aJ.refl _ _⟩
 case round =>
  obtain⟨at',f,pre,rfl,hle,he,hf,ug,hkr⟩:=hrel
  have hBr:=hkr.box hX.1 hB
  have k0:=hBr.cell 0
  obtain⟨hlm,hmc,hc63,hcell⟩:=hS.cellsA
  by_cases hlt:at'<m
  ·have hca:¬ c=at':=by omega
   have ajk:decide ((at':Int)<(m:Int))=true:=decide_eq_true (by omega)
   have hlen:(l.drop at').length=m - at':=by rw[List.length_drop];omega
   obtain⟨f,rfl⟩:∃ f',f=f'+1:=⟨f - 1,by omega⟩
   rw[QW f at' _ (by omega),List.drop_drop] at he
   have aeK:=Z5 (l.drop at')
   have hBW:Below wr.heap.size wr (wr.alloc (.cells #[.int .u8 10] 5)):=aj _ _
   obtain⟨k9,hk9⟩:=hM
   have hM9:(wr.alloc (.cells #[.int .u8 10] 5)).cell? ⟨0,0,none⟩=some (.int .i64 k9):=((hkr.trans (aJ.below hBW)).cell hX.2.2 hk9)
   have hcl:∀ i,i<m - at'→(wr.alloc (.cells #[.int .u8 10] 5)).cell? ⟨g.1,g.2+at'+i,none⟩=some (.int .u8 (((l.drop at').map fun u=>((u.toNat:Nat):Int)).getD i 0)):=fun i hi=>by
    have h1:=hcell (at'+i) (by omega) W (Below.refl _ _)
    have h2:=(hkr.trans (aJ.below hBW)).cell hX.2.1 h1
    rw[Nat.add_assoc,h2]
    simp[List.getD,List.getElem?_map,List.getElem?_drop,List.getElem?_eq_getElem (show at'+i<l.length by omega)]
   have hcut:=Tryz.bytes_Cut_all (some ⟨g.1,g.2+at',none⟩) (some ⟨wr.heap.size,0,none⟩) (m - at') (c - at') 1 1 ((l.drop at').map fun u=>((u.toNat:Nat):Int)) [10] k9 (wr.alloc (.cells #[.int .u8 10] 5)) (by rw[List.length_map,hlen]) rfl (fun x hx=>by
    rw[List.mem_map] at hx
    obtain⟨u,_,rfl⟩:=hx
    have:=u.toNat_lt
    omega) (fun y hy=>by simp at hy;subst hy;decide) (fun _=>⟨_,_,rfl,hcl⟩) (fun _=>⟨_,_,rfl,fun i hi=>by
     obtain rfl:i=0:=by omega
     exact(Box.new wr #[.int .u8 10] 5).cell 0⟩) (by simp) (by omega) (by omega) (by omega) hM9
   have XA:Lib.bytesOf ((l.drop at').map fun u=>((u.toNat:Nat):Int))=l.drop at':=by
    unfold Lib.bytesOf
    simp[List.map_map,Function.comp_def]
   rw[XA,show Lib.bytesOf [10]=[10] from rfl] at hcut
   obtain⟨v2,v3,hv⟩:=Z7 ⟨g.1,g.2+at',none⟩ (m - at') (c - at') (l.drop at') hlen.symm
   rw[hv] at hcut
   have Dc:=fun nd=>hY pre (at',iK (l.drop at')) _ (hJ pre _ ((wr.alloc (.cells #[.int .u8 10] 5)).drewN nd) ug ⟨rfl,rfl,rfl,hBW.size,fun k hk _=>hBW.block k hk⟩) (by rw[←he];simp) ⟨by show at'+(iK _).length≤_;omega,(UJ _).symm⟩
   have hwrap:at'+((iK (l.drop at')).length+1)≤70000:=by omega
   generalize hgl:iK (l.drop at')=ln at *
   have HC:=ah hcut
   have HY:=ah Dc
   have HE:=ah he
   have HW:=ah hwrap
   have HL:=ah aeK
   have HF:=ah hf
   have HLM:=ah hlm
   have ru:=ah hlen
   have hln:ln.length≤65536:=by omega
   have hkd:=fun nd=>hkr.trans (aJ.below (hBW.trans (below_drewN _ nd)))
   have HK:=ah hkd
   have ana:(at':Int)≤(m:Int):=by omega
   have amP:(m:Int)≤(c:Int):=by omega
   have hdd:∀ k:Nat,(Fence.wide.depth.isSome=true→1≤k):=fun k h=>by cases h
   clear hcut Dc he hcl hM9 XA hv hY hf aeK hlen hlm hcell hS hwrap hkd hk9 hgl
   gi_wp2_with (first | (refine⟨trivial,hdd _,?_⟩;gi_at_call 137;go_must (refine(callsIn_wide.2 HC.out).mono ?_;rintro e w1 ⟨rfl,nd,rfl⟩;obtain⟨fn,tmps,assign,body,hy,hR⟩:=HY.out nd)) | (refine⟨hdd _,?_⟩;refine hR.mono ?_;clear hR;rintro e W2 (⟨rfl,hJ2,hk2⟩ | ⟨rfl,hx2⟩)))
   ·have h1:=HL.out
    have h2:=ru.out
    have h3:=HLM.out
    have h4:=HF.out
    refine⟨⟨at'+(ln.length+1),f,pre++[(at',ln)],by push_cast;rfl,by omega,by rw[List.append_assoc];exact HE.out,by rw[List.length_drop] at h4 ⊢;omega,hJ2,(HK.out nd).trans hk2⟩,by simp[intOf];omega⟩
   ·refine bodyPost_ret (results_none rfl _ _ _) rfl ?_
    refine⟨⟨_,rfl⟩,.inr ⟨_,?_,hx2⟩⟩
    rw[←HE.out]
    exact⟨_,by rw[List.append_assoc];rfl⟩
  ·have ajk:decide ((at':Int)<(m:Int))=false:=decide_eq_false (by omega)
   rw[List.drop_eq_nil_of_le (by omega),UK,List.append_nil] at he
   subst he
   clear hcell hlm hmc hc63 hM hB hS
   gi_wp2
   go_end0
   exact⟨⟨_,rfl⟩,.inl ⟨_,rfl,ug⟩⟩
def abQ(l:List UInt8)(g:Nat×Nat)(c:Nat)(x:{ x:Nat×List UInt8 // DY l x }):Array Value:=abP g c x.1
theorem QX(n bB:Nat)(g:Nat×Nat)(m c:Nat)(l:List UInt8)(hm:m≤65536)(X:Nat→Prop)(hX:¬ X bB∧¬ X g.1∧¬ X 0)(w:World)(hM:∃ k,w.cell? ⟨0,0,none⟩=some (.int .i64 k))(hB:Box w bB #[.slice (some ⟨g.1,g.2,none⟩) m c] 35)(hS:ak w (.slice (some ⟨g.1,g.2,none⟩) m c) 1 bT l) :
  SeqStopsK Fence.wide n Tryz.prog 136 #[.pointer (some ⟨bB,0,none⟩)] (abQ l g c) (aJ X) (fun ys=>ys.map (·.val)=qM l) (fun pre=>pre.map (·.val) <+: qM l) (qM l).length w:=fun lp J Jx W hW hJ _ hY h0=>by
 obtain⟨k,hk⟩:=hM
 refine(Z9 n lp bB g m c l hm X hX (fun pre W=>∃ p:List { x:Nat×List UInt8 // DY l x },p.map (·.val)=pre∧J p W) (fun pre W=>∃ p:List { x:Nat×List UInt8 // DY l x },p.map (·.val)=pre∧Jx p W) (fun pre A B ⟨p,hp,hA⟩ hg=>⟨p,hp,hJ p A B none hA hg (fun r e=>by cases e)⟩)
  (fun pre x W ⟨p,hp,hj⟩ hl hx=>(hY p ⟨x,hx⟩ W hj (by rw[←hp] at hl;simpa using hl)).mono (fun e W' h=>?_)) W ⟨k,(aJ.below (X:=fun _=>False) hW).cell id hk⟩ (hB.kept hW) (hS.kept hW) ⟨[],rfl,h0⟩).mono (fun e W' h=>?_)
 ·rcases h with⟨h1,h2,h3⟩ | ⟨h1,h2⟩
  ·exact .inl ⟨h1,⟨_,by simp[hp],h2⟩,h3⟩
  ·exact .inr ⟨h1,_,by simp[hp],h2⟩
 ·rcases h with⟨h1,⟨_,rfl,p,hp,h2⟩ | ⟨_,h3,p,rfl,h2⟩⟩
  ·exact⟨h1,.inl ⟨p,hp,h2⟩⟩
  ·exact⟨h1,.inr ⟨p,h3,h2⟩⟩
theorem UL(v:Value)(w:World)(hv:∃ a n c,v=.slice a n c):Calls Tryz.prog 97 #[v] w fun e w'=>e=.returned (.func (.func 136) #[] #[.pointer (some ⟨w.heap.size,0,none⟩)])∧w'=w.alloc (.cells #[v] 35):=by
 obtain⟨a,n,c,rfl⟩:=hv
 go_enter Tryz.func97,Tryz.ntmps97
 go_wp2
 have hmf:∀ (fn:Fn) (first cap:Array Value) (w:World),(Instr.makeFunc fn first cap).run Tryz.prog w=.ok (.func fn first cap) w:=fun _ _ _ _=>rfl
 go_ret
 exact⟨rfl,rfl⟩
end
end Go.Proofs.YtbemonecmmnlcaaGreatDoor
