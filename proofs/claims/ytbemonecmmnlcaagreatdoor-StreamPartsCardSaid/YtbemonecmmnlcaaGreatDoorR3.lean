/- The texts of Q3, in few letters (mini.py). -/
import Derived.Test.YtbemonecmmnlcaaGreatDoorR2
import Derived.Test.YtbemonecmmnlcaaGreatDoorM31
import Derived.Test.YtbemonecmmnlcaaGreatDoorM1
set_option linter.unusedVariables false
set_option linter.unusedSimpArgs false
set_option maxRecDepth 20000
set_option maxHeartbeats 3200000
namespace Go.Proofs.YtbemonecmmnlcaaGreatDoor
section
open Go.RowKit
theorem ae7(sb top vb n:Nat)(V:au)(D:aF)(w0 w:World)(hlt:sb<top)(X:jH)(g:Option Nat)(hS:mG sb top vb n V D w0 w X g)(hk:X.sk=true)(hh:X.held=[]) :
  Calls Tryz.prog 86 #[.pointer (some ⟨sb,0,none⟩)] w (adv sb top vb n V D w0 g w (oG D X)):=by
 obtain⟨hB,ha,m,hc,s,j,r,hH,hga,hbx,hst⟩:=hS
 have ht:oG D X=([],X):=by unfold oG;rw[if_pos hk]
 rw[ht]
 have q0:w.cell? ⟨sb,268,none⟩=some (.bool true):=by rw[←hk];exact hbx.fV 8
 have q1:w.cell? ⟨sb,264,none⟩=some (.slice ha m hc):=hbx.fV 4
 have l0:=hbx.lt
 have f0:=hbx.free 264
 have hb2:=hbx.oh 4 (.slice none 0 0)
 have hO2:=(aP.refl sb w).set 264 (.slice none 0 0)
 have HS2:Hid (mG sb top vb n V D w0 (w.setCell ⟨sb,264,none⟩ (.slice none 0 0)) X g):=ah ⟨hB.only hO2,none,0,0,s,j,r,by rw[hh];exact gZ.nil _ _,(fun ad e=>by cases e),hb2,fun e=>by rw[hk] at e;cases e⟩
 have HO2:=ah hO2
 clear hB hH hga hbx hst ht hb2 hO2 hh hk
 go_enter Tryz.func86,Tryz.ntmps86
 go_wp2_with fail
 go_loopw [3] (fun v wr=>v=.slice none 0 0∧wr=w) (fun _ _=>0)
 case atStart=>exact⟨rfl,rfl⟩
 case round =>
  obtain⟨rfl,rfl⟩:=hrel
  go_wp2
  go_ret
  exact⟨none,0,rfl,Own.nil _ _ _ _ _,HO2.out,HS2.out⟩
end
section
open Go.RowKit
theorem ak.ahA{w:World}{v:Value}{l:List Nat}(h:ak w v 1 gX l)(hb:∀ x∈l,x<256):ak w v 1 bT (l.map UInt8.ofNat):=by
 obtain⟨a,b,o,cap,rfl,hl,hc,ha,hx⟩:=h
 refine⟨a,b,o,cap,by rw[List.length_map],by rw[List.length_map];exact hl,hc,ha.imp id (fun⟨h1,h2⟩=>⟨by rw[h1];rfl,h2⟩),fun i hi j u hu=>?_⟩
 rw[List.length_map] at hi
 rw[List.getElem_map] at hu
 have h1:(UInt8.ofNat l[i]).toNat=l[i]:=UInt8.toNat_ofNat_of_lt' (hb _ (List.getElem_mem hi))
 exact hx i hi j u (by simpa [bT,gX,h1] using hu)
end
section
open Go.RowKit
theorem afr(sb top vb:Nat)(V:au)(D:aF)(w0 w:World)(n wd lb lo nb no:Nat)(rb ro rc:Nat→Nat)(hM:zq (Mid sb top w0) V D n wd lb lo nb no vb rb ro rc)(hW:kK D)(hlt:sb<top)(X:jH)(g:Option Nat)(hS:mG sb top vb n V D w0 w X g)(hg:∀ k,g=some k→k<w.heap.size)
  (hlen:X.at_+X.held.length≤1099511627776) (hh:X.sk=true→X.held=[]) :
  Calls Tryz.prog 43 #[.pointer (some ⟨sb,0,none⟩)] w (Kz sb top vb n V D w0 g w (G7 D X)):=by
 obtain⟨held,at_,en,sk⟩:=X
 obtain⟨ha,m,hc,s,j,r,hga,hH,aa7,hbx,hst⟩:=hS.grown
 dsimp only at hH hbx hst hh hlen
 have q0:w.cell? ⟨sb,267,none⟩=some (.bool en):=hbx.fV 7
 have l0:=hbx.lt
 have f0:=hbx.free 267
 unfold G7
 cases en with
 | true =>
  rw[if_pos rfl]
  have HS:=ah hS;have HG:=ah hg
  clear hS hbx hg hst hga hH aa7 hM hW hh
  go_enter Tryz.func43,Tryz.ntmps43
  go_wp2
  go_ret
  exact⟨none,0,g,rfl,Own.nil _ _ _ _ _,ni.below (Below.refl _ _),HS.out,fun k e=>⟨.inl e,HG.out k e⟩⟩
 | false =>
  rw[if_neg (by simp)]
  have hO:=(aP.refl sb w).set 267 (.bool true)
  have hS2:mG sb top vb n V D w0 (w.setCell ⟨sb,267,none⟩ (.bool true)) ⟨held,at_,true,sk⟩ g:=⟨aa7.only hO,ha,m,hc,s,j,r,hH.only hlt hO,hga,hbx.oh 7 (.bool true),hst⟩
  have agr:Calls Tryz.prog 86 #[.pointer (some ⟨sb,0,none⟩)] (w.setCell ⟨sb,267,none⟩ (.bool true)) (adv sb top vb n V D w0 g (w.setCell ⟨sb,267,none⟩ (.bool true)) (oG D ⟨held,at_,true,sk⟩)):=by
   cases sk with
   | true=>exact ae7 sb top vb n V D w0 _ hlt _ g hS2 rfl (hh rfl)
   | false=>exact adw sb top vb V D w0 _ n wd lb lo nb no rb ro rc hM hW hlt _ g hS2 (fun k e=>by rw[World.size_setCell];exact hg k e) hlen rfl
  have HT:=ah agr;have HO:=ah hO;have HG:=ah hg
  clear hS hbx hg hst hga hH aa7 hM hW hh agr hS2 hO
  go_enter Tryz.func43,Tryz.ntmps43
  go_wp2_with (go_at_call 86;go_must (refine HT.out.mono ?_;rintro e w3 ⟨a3,c3,rfl,ho3,hO3,hS3⟩))
  go_ret
  rw[World.size_setCell] at ho3
  have hs3:=hO3.size
  rw[World.size_setCell] at hs3
  exact⟨a3,c3,g,rfl,ho3,ni.agB (HO.out.trans hO3),hS3,fun k e=>⟨.inl e,Nat.lt_of_lt_of_le (HG.out k e) hs3⟩⟩
theorem ahs(sb top vb n:Nat)(V:au)(D:aF)(w0 w:World)(X:jH)(g:Option Nat)(hS:mG sb top vb n V D w0 w X g):Calls Tryz.prog 51 #[.pointer (some ⟨sb,0,none⟩)] w (bV w (.int .i64 (X.held.length:Nat))):=by
 obtain⟨ha,m,hc,s,j,r,_,hH,_,hbx,_⟩:=hS.grown
 have q0:w.cell? ⟨sb,264,none⟩=some (.slice ha m hc):=hbx.fV 4
 have l0:=hbx.lt
 have hm:=hH.len.1
 rw[←hm]
 clear hS hbx hH hm
 go_enter Tryz.func51,Tryz.ntmps51
 go_wp2
 go_ret
 exact⟨rfl,Below.refl _ _⟩
end
section
open Go.RowKit
theorem afw(V:au)(D:aF)(w:World)(h:kJ w V D)(hl:∀ x∈D.names,x.length≤9223372036854775807)(hr:o9 D=false):Calls Tryz.prog 39 #[.agg V.cells] w (bV w (.tuple #[.pointer none,.int .i64 6])):=by
 have hbx:=Box.new w V.cells 27
 have hB0:=aj w (.cells V.cells 27)
 have HR:=ah (fun u hu=>hr▸DK V D u (h.kept hu) hl)
 clear h hl hr
 go_enter Tryz.func39,Tryz.ntmps39
 go_wp2_with (first | (refine dL (by rfl) 27 _ rfl w.heap.size rfl _ _ _ _ hbx Tryz.underlying27 rfl (bU _) ?_) | (go_at_call 40;go_must (refine(HR.out _ hB0).mono ?_;rintro e w2 ⟨rfl,hb2⟩)))
 go_ret2
 exact⟨rfl,hB0.trans (hb2.mono hB0.size)⟩
end
section
open Go.ChangeShapes Go.WideShapes Go.ChangeAt Go.RowKit Go.Deep
def abj(w:World)(a:Option Addr)(n c:Nat)(L:List (List UInt8)):Prop :=
 ∃ rows:List Fz,n=L.length∧rows.length=L.length∧ak w (.slice a n c) 1 vG rows∧∀ i (h1:i<rows.length) (h2:i<L.length),∃ a' c',rows[i]=(a',L[i].length,c')∧ak w (.slice a' L[i].length c') 1 bT L[i]
theorem abj.kept{w w':World}{a:Option Addr}{n c:Nat}{L:List (List UInt8)}(h:abj w a n c L)(hb:Below w.heap.size w w'):abj w' a n c L:=by
 obtain⟨rows,h1,h2,h3,h4⟩:=h
 exact⟨rows,h1,h2,h3.kept hb,fun i p q=>by obtain⟨a',c',e,hs⟩:=h4 i p q;exact⟨a',c',e,hs.kept hb⟩⟩
section
variable {H:Type} {enc:TypeId×Value→H} {P:Program} {w:World} {base:Nat} {spare:Nat→Bool} {held:Bool}
theorem weightsAll_mem{e:TypeId}{R:Nat}:∀ (l:List (DataW H)) (d:DataW H),(DataW.weightsAll P e l).all (·≤R)=true→d∈l→(DataW.weights P e d).all (·≤R)=true
 | [],_,_,h=>by cases h
 | x::r,d,hw,h=>by
  rw[DataW.weightsAll,List.all_append,Bool.and_eq_true] at hw
  rcases List.mem_cons.1 h with rfl | h
  ·exact hw.1
  ·exact weightsAll_mem r d hw.2 h
theorem aeI{tL tB tU:TypeId}{R:Nat}(hL:P.underlying tL=some (.slice tB))(hB:P.underlying tB=some (.slice tU))(hU:P.underlying tU=some (.int .u8))(cB:P.cellsOf tB=1)(cU:P.cellsOf tU=1)(bU:P.bytesOf tU=1){fuel:Nat}{a:Option Addr}{len cap:Nat}{x:DataW H×List MemPlace}
  (h:DataW.trod enc P w base spare held fuel tL [.slice a len cap]=some x) (hw:(DataW.weights P tL x.1).all (·≤R)=true):∃ L:List (List UInt8),abj w a len cap L∧∀ y∈L,y.length≤R:=by
 rcases DataW.trod_slice hL h with⟨h0,_⟩ | ⟨a',len',cap',elems,rest,n,hf,h0,hx,_,hle,hm,ah3,hel,_⟩
 ·simp at h0
  obtain⟨rfl,rfl,rfl⟩:=h0
  exact⟨[],⟨[],rfl,rfl,⟨none,0,0,0,rfl,Nat.le_refl _,by simp[maxLen],.inr ⟨rfl,fun _=>rfl⟩,fun i hi=>by simp at hi⟩,fun i hi=>by simp at hi⟩,fun y hy=>by cases hy⟩
 ·simp at h0
  obtain⟨rfl,rfl,rfl⟩:=h0
  rw[hx] at hw
  simp only[DataW.weights,hL,List.all_cons,List.all_append,Bool.and_eq_true] at hw
  have key:∀ i,i<len→∃ y:Fz×List UInt8,w.cell? (a'.add i)=some (.slice y.1.1 y.1.2.1 y.1.2.2)∧y.1.2.1=y.2.length∧ak w (.slice y.1.1 y.2.length y.1.2.2) 1 bT y.2∧y.2.length≤R:=fun i hi=>by
   have h1:=hel i hi
   rw[cB,Nat.mul_one,List.getElem?_eq_getElem (show i<elems.length by omega)] at h1
   obtain⟨cs',h2,h3⟩:=Option.bind_eq_some_iff.1 h1
   obtain⟨h5,_,h4⟩:=World.cells?_some h2
   match cs',h5,h3,h4 with
   | [c],_,h3,h4 =>
    have hc:∃ a1 n1 c1,c=.slice a1 n1 c1:=by
     rcases DataW.trod_slice hB h3 with⟨e,_⟩ | ⟨a1,n1,c1,_,_,_,_,e,_⟩
     ·simp at e;exact⟨_,_,_,e⟩
     ·simp at e;exact⟨_,_,_,e⟩
    obtain⟨a1,n1,c1,rfl⟩:=hc
    have hw1:=weightsAll_mem _ _ hw.2.1 (List.mem_map.2 ⟨elems[i],List.getElem_mem _,rfl⟩)
    have h6:=aeE hB h3 hw1
    rw[bU,Nat.mul_one] at h6
    obtain⟨l,hl,hs,hb⟩:=TG hB hU cU h3
    have hs2:=hs.ahA hb
    refine⟨((a1,n1,c1),l.map UInt8.ofNat),?_,by simp[hl],by rw[List.length_map];exact hs2,by rw[List.length_map];omega⟩
    have:=h4 0 (by simp)
    simpa [Addr.add] using this
  obtain⟨g,hg⟩:=abB key
  have hspot:0<len→a'.spot=none:=fun h0=>by
   have:=World.cell?_spot (hg 0 h0).1
   simpa [Addr.add] using this
  obtain⟨b,o,spot⟩:=a'
  refine⟨(List.range len).map fun i=>(g i).2,⟨(List.range len).map fun i=>(g i).1,by simp,by simp,⟨some ⟨b,o,spot⟩,b,o,cap,by simp,by simpa using hle,hm,?_,fun i hi j u hu=>?_⟩,fun i h1 h2=>?_⟩,fun y hy=>?_⟩
  ·by_cases h0:len=0
   ·exact .inr ⟨by simp[h0],fun h=>by cases h⟩
   ·have h1:=hspot (by omega)
    simp only at h1
    exact .inl (by rw[h1])
  ·have hi':i<len:=by simpa using hi
   have h1:=(hg i hi').1
   have hs2:spot=none:=hspot (by omega)
   subst hs2
   cases j with
   | succ j=>simp[vG] at hu
   | zero =>
    simp[vG] at hu
    subst hu
    rw[Addr.add_mid] at h1
    simpa using h1
  ·have hi':i<len:=by simpa using h1
   obtain⟨_,e2,e3,_⟩:=hg i hi'
   refine⟨(g i).1.1,(g i).1.2.2,?_,by simpa using e3⟩
   simp only[List.getElem_map,List.getElem_range]
   rw[←e2]
  ·obtain⟨i,hi,rfl⟩:=List.mem_map.1 hy
   exact(hg i (List.mem_range.1 hi)).2.2.2
end
end
section
open Go.RowKit
def total(L:List (List UInt8)):Nat:=(L.map List.length).sum
def abx(most:Nat):List (List UInt8)→Nat→Nat
 | [],n=>n
 | x::r,n=>if n≤most then abx most r (n+x.length) else n
theorem aej(most:Nat):∀ (L:List (List UInt8)) (n:Nat),most<abx most L n↔most<n+total L
 | [],n=>by simp[abx,total]
 | x::r,n=>by
  have e:total (x::r)=x.length+total r:=by simp[total]
  rw[abx,e]
  by_cases h:n≤most
  ·rw[if_pos h,aej most r,Nat.add_assoc]
  ·rw[if_neg h];omega
theorem abj.at_{w:World}{a:Option Addr}{n c:Nat}{L:List (List UInt8)}(h:abj w a n c L):n=L.length∧n≤c∧c≤9223372036854775807∧∃ b o,(∀ i,i<n→a=some ⟨b,o,none⟩)∧∀ i (hi:i<L.length),∃ a' c',(∀ u,Below w.heap.size w u→u.cell? ⟨b,o+i,none⟩=some (.slice a' (L[i]).length c'))∧ak w (.slice a' (L[i]).length c') 1 bT L[i]:=by
 obtain⟨rows,h1,h2,h3,h4⟩:=h
 obtain⟨b,o,e1,e2,e3,ha,hx⟩:=h3.dG (f:=fun x:Fz=>Value.slice x.1 x.2.1 x.2.2)
 refine⟨h1,by omega,e3,b,o,fun i hi=>ha i (by omega),fun i hi=>?_⟩
 have hi2:i<rows.length:=by omega
 obtain⟨a',c',hr,hs⟩:=h4 i hi2 hi
 refine⟨a',c',fun u hu=>?_,hs⟩
 rw[hx i hi2 u hu,hr]
theorem aeU(a:Option Addr)(n c:Nat)(L:List (List UInt8))(most:Nat)(w:World)(h:abj w a n c L)(hq:∀ x∈L,x.length≤140737488351232)(hm:most≤1048576) :
  Calls Tryz.prog 41 #[.slice a n c,.int .i64 most] w fun e w'=>∃ s:Nat,e=.returned (.int .i64 s)∧Below w.heap.size w w'∧(most<s↔most<total L):=by
 obtain⟨hn,hnc,hc,b,o,ha,hx⟩:=h.at_
 have HS:=ah (show most<abx most L 0↔most<total L by rw[aej,Nat.zero_add])
 obtain⟨S,hS⟩:∃ S,abx most L 0=S:=⟨_,rfl⟩
 rw[hS] at HS
 have HSE:=ah hS
 have HN:=ah hn;have HA:=ah ha;have HX:=ah hx;have HQ:=ah hq
 have hn63:n≤9223372036854775807:=by omega
 clear h hn ha hx hq hS
 go_enter Tryz.func41,Tryz.ntmps41
 go_wp2_with fail
 go_loopw [5,6] (fun v5 v6 wr=>∃ k s:Nat,k≤n∧v5=.int .i64 s∧v6=.int .i64 k∧Below w.heap.size w wr∧abx most (L.drop k) s=S∧s≤140737489399808) (fun _ v6 _=>n - (intOf v6).toNat)
 case atStart=>exact⟨0,0,Nat.zero_le _,rfl,rfl,Below.refl _ _,by rw[List.drop_zero];exact HSE.out,by omega⟩
 case round =>
  obtain⟨k,s,hk,rfl,rfl,hB,hl,hs⟩:=hrel
  by_cases hlt:k<n
  ·have hki:(k:Int)<(n:Int):=by omega
   have hk0:(0:Int)≤(k:Int):=by omega
   have hkl:k<L.length:=by rw[←HN.out];exact hlt
   rw[List.drop_eq_getElem_cons hkl,abx] at hl
   by_cases hsm:s≤most
   ·have hsi:(s:Int)≤(most:Int):=by omega
    rw[if_pos hsm] at hl
    obtain rfl:=HA.out k hlt
    obtain⟨a',c',hc0,-⟩:=HX.out k hkl
    have hc1:=hc0 wr hB
    have hbl:=World.block_lt_of_cell? wr _ hc1
    have hq1:=HQ.out _ (List.getElem_mem hkl)
    generalize (L[k]).length=m at *
    have hw1:IntKind.i64.wrap ((s:Int)+(m:Int))=((s+m:Nat):Int):=by rw[IntWalk.i64_in _ (by omega)];omega
    have hw2:IntKind.i64.wrap ((k:Int)+1)=((k+1:Nat):Int):=by rw[IntWalk.i64_in _ (by omega)];omega
    have HL:=ah hl
    clear hl hc0 hkl
    go_wp2
    exact⟨⟨k+1,s+m,hlt,rfl,rfl,hB,HL.out,by omega⟩,by simp[intOf];omega⟩
   ·have hsi:¬ (s:Int)≤(most:Int):=by omega
    rw[if_neg hsm] at hl
    have HL:=ah hl
    clear hl hkl
    go_wp2
    go_ret
    exact⟨s,rfl,hB,by rw[HL.out];exact HS.out⟩
  ·have hki:¬ (k:Int)<(n:Int):=by omega
   rw[List.drop_eq_nil_of_le (by have:=HN.out;omega),abx] at hl
   have HL:=ah hl
   clear hl
   go_wp2
   go_ret
   exact⟨s,rfl,hB,by rw[HL.out];exact HS.out⟩
end
section
open Go.RowKit
theorem mG.lt{sb top vb n:Nat}{V:au}{D:aF}{w0 w w':World}{X:jH}{g:Option Nat}(h:mG sb top vb n V D w0 w X g)(hlt:sb<top)(hs:w.heap.size≤w'.heap.size)(hb:∀ b,b<w.heap.size→(b<top∨g=some b)→w'.heap[b]?=w.heap[b]?):mG sb top vb n V D w0 w' X g:=by
 obtain⟨⟨m1,m2⟩,ha,m,hc,s,j,r,hH,hga,hbx,hst⟩:=h
 exact⟨⟨Nat.le_trans m1 hs,fun b h1 h2=>(hb b (Nat.lt_of_lt_of_le h2 m1) (.inl h2)).trans (m2 b h1 h2)⟩,ha,m,hc,s,j,r,hH.same hs (fun ad e=>hb _ (hH.ge ad e).2 (.inr (hga ad e))),hga,(hb sb hbx.lt (.inl hlt)).trans hbx,hst⟩
structure abp(w:World)(sb top vb n:Nat)(V:au)(D:aF)(w0 wr:World)(X:jH)(g:Option Nat)(acc:List (Int×Nat×Nat))(va vw:Value)(W:List UInt8):Prop where
 st:mG sb top vb n V D w0 wr X g
 gl:∀ q,g=some q→q<wr.heap.size∧top≤q
 rel:yE D X W
 acs:Qi D X W acc
 all:Own wr top 61 3 AA va acc
 txt:Own wr top 5 1 bT vw W
 mO:∀ q,g=some q→va.ownBlock≠some q∧vw.ownBlock≠some q
 low:Below w.heap.size w wr
section
variable {w:World} {sb top vb n:Nat} {V:au} {D:aF} {w0 wr wr':World} {X:jH} {g:Option Nat} {acc:List (Int×Nat×Nat)} {va vw:Value} {W:List UInt8}
theorem abp.kept(h:abp w sb top vb n V D w0 wr X g acc va vw W)(hlt:sb<top)(hb:Below wr.heap.size wr wr'):abp w sb top vb n V D w0 wr' X g acc va vw W :=
 ⟨h.st.kept hlt hb,fun q e=>⟨Nat.lt_of_lt_of_le (h.gl q e).1 hb.size,(h.gl q e).2⟩,h.rel,h.acs,h.all.kept hb,h.txt.kept hb,h.mO,h.low.trans (hb.mono h.low.size)⟩
theorem abp.told{Y:jH}{g':Option Nat}{toks:List (Int×Nat×Nat)}{a':Option Addr}{n' c':Nat}{W':List UInt8}{w1 w2:World}(h:abp w sb top vb n V D w0 wr X g acc va vw W)(hlt:sb<top)(hsb:w.heap.size≤sb)(hk:ni sb g wr w1)(hS:mG sb top vb n V D w0 w1 Y g')(hg:∀ k,g'=some k→(g=some k∨wr.heap.size≤k)∧k<w1.heap.size)
  (hR:yE D Y W') (hA:Qi D Y W' (acc++toks)) (ho:Own w2 top 61 3 AA (.slice a' n' c') (acc++toks)) (hgr:w1.grownBy w2 va.ownBlock) (hf:(Value.slice a' n' c').ownBlock=va.ownBlock∨(Value.slice a' n' c').ownBlock=some w1.heap.size) :
  mG sb top vb n V D w0 w2 Y g'∧(∀ q,g'=some q→q<w2.heap.size∧top≤q)∧Own w2 top 5 1 bT vw W∧(∀ q,g'=some q→(Value.slice a' n' c').ownBlock≠some q∧vw.ownBlock≠some q)∧Below w.heap.size w w2:=by
 have hav:∀ q,va.ownBlock=some q→top≤q∧q<wr.heap.size:=fun q e=>h.all.bY q e
 have htv:∀ q,vw.ownBlock=some q→top≤q∧q<wr.heap.size:=fun q e=>h.txt.bY q e
 have hga:∀ q,g'=some q→va.ownBlock≠some q∧vw.ownBlock≠some q:=fun q e=>by
  rcases (hg q e).1 with h1 | h1
  ·exact h.mO q h1
  ·exact⟨fun e2=>by have:=hav q e2;omega,fun e2=>by have:=htv q e2;omega⟩
 have xK:∀ q,g'=some q→top≤q:=fun q e=>by
  rcases (hg q e).1 with h1 | h1
  ·exact(h.gl q h1).2
  ·exact Nat.le_trans h.st.1.1 h1
 have htop:w.heap.size≤top:=by omega
 have hB1:=hk.toBelow h.low hsb (fun q e=>Nat.le_trans htop (h.gl q e).2)
 have ahN:Own w1 top 5 1 bT vw W:=h.txt.dh fun q e=>hk.block q (htv q e).2 (by have:=htv q e;omega) (fun e2=>(h.mO q e2).2 e)
 have hne:∀ q,va.ownBlock=some q→vw.ownBlock≠some q:=fun q e e2=>by
  obtain⟨_,c1,b1⟩:=h.all.block q e
  obtain⟨_,c2,b2⟩:=h.txt.block q e2
  exact absurd (b1.jC b2) (by decide)
 refine⟨hS.lt hlt hgr.size fun b hb hc=>hgr.block b hb fun e=>?_,fun q e=>⟨Nat.lt_of_lt_of_le (hg q e).2 hgr.size,xK q e⟩,ahN.dh fun q e=>hgr.block q (Nat.lt_of_lt_of_le (htv q e).2 hk.size) fun e2=>hne q e2.symm e,fun q e=>⟨fun e2=>?_,(hga q e).2⟩,⟨hgr.os.trans hB1.os,hgr.tape.trans hB1.tape,hgr.output.trans hB1.output,Nat.le_trans hB1.size hgr.size,fun b hb=>(hgr.block b (by have:=hB1.size;omega) fun e=>by have:=hav b e.symm;omega).trans (hB1.block b hb)⟩⟩
 ·rcases hc with hc | hc
  ·have:=hav b e.symm;omega
  ·exact(hga b hc).1 e.symm
 ·rcases hf with hf | hf
  ·exact(hga q e).1 (hf▸e2)
  ·rw[hf] at e2
   have:=(hg q e).2
   have:=Option.some.inj e2
   omega
end
end
end Go.Proofs.YtbemonecmmnlcaaGreatDoor
