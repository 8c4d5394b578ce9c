/- The texts of S17, in few letters (mini.py). -/
import Derived.Test.YtbemonecmmnlcaaGreatDoorM8
import Derived.Test.YtbemonecmmnlcaaGreatDoorM16
import Derived.Deep.DeepCutAuto
set_option linter.unusedVariables false
set_option linter.unusedSimpArgs false
set_option maxHeartbeats 1600000
set_option maxRecDepth 20000
namespace Go.Proofs.YtbemonecmmnlcaaGreatDoor
section
open Go.RowKit
abbrev bs(l:List UInt8):ByteArray:=⟨l.toArray⟩
theorem aeu{a b:List UInt8}(h:bs a=bs b):a=b:=by
 have:=congrArg (fun s:ByteArray=>s.data.toList) h
 simpa using this
def nameAt(l:List (List UInt8))(i:Nat):Bool:=wQ (l.getD i [])&&!((l.take i).contains (l.getD i []))
def rF(l:List (List UInt8))(k:Nat):Bool:=(List.range k).all (nameAt l)
theorem OT(l:List (List UInt8))(k:Nat):rF l (k+1)=(rF l k&&nameAt l k):=by
 unfold rF;rw[List.range_succ,List.all_append];simp
theorem MK(l:List (List UInt8))(k n:Nat)(hk:k<n)(h:nameAt l k=false):rF l n=false:=by
 unfold rF
 rw[List.all_eq_false]
 exact⟨k,by simpa using hk,by simp[h]⟩
def nT(l:List (List UInt8)):Bool:=decide (l.length≤64)&&rF l l.length
theorem QS(l:List (List UInt8))(s:List UInt8):Lib.containsS (l.map bs) (bs s)=l.contains s:=by
 rw[Bool.eq_iff_iff,Lib.containsS_iff,List.contains_iff_mem,List.mem_map]
 exact⟨fun⟨x,hx,he⟩=>aeu he▸hx,fun h=>⟨s,h,rfl⟩⟩
theorem Xq(a:Option Addr)(cap n:Nat)(l:List (List UInt8))(w:World)(h:ak w (.slice a n cap) 1 kH l)(hl:∀ x∈l,x.length≤9223372036854775807) :
  Calls Tryz.prog 84 #[.slice a n cap] w (bV w (.bool (nT l))):=by
 obtain⟨b,o,hlen,hcap,hcap',ha,hcell⟩:=h.dG
 have hnn:n≤9223372036854775807:=by omega
 have e:nT l=(decide (n≤64)&&rF l n):=by rw[hlen];rfl
 rw[e]
 by_cases h64:64<n
 ·have e1:decide (n≤64)=false:=by simp;omega
  rw[e1]
  have aja:(64:Int)<(n:Int):=by omega
  clear hlen hcell ha h e e1
  go_enter Tryz.func84,Tryz.ntmps84
  go_wp2
  go_ret
  exact⟨rfl,Below.refl _ _⟩
 ·have e1:decide (n≤64)=true:=by simp;omega
  rw[e1,Bool.true_and]
  have ajb:decide ((64:Int)<(n:Int))=false:=by simp;omega
  have HC:=ah hcell
  have HL:=ah hlen
  have HA:=ah ha
  have HLL:=ah hl
  clear hlen hcell ha h e e1 hl
  go_enter Tryz.func84,Tryz.ntmps84
  go_wp2
  go_loopw [10] (fun i wr=>∃ k:Nat,k≤n∧i=.int .i64 k∧rF l k=true∧Below w.heap.size w wr) (fun i _=>n - (intOf i).toNat)
  case atStart=>exact⟨0,Nat.zero_le _,rfl,rfl,Below.refl _ _⟩
  case round =>
   obtain⟨k,hk,rfl,hok,hB⟩:=hrel
   by_cases hlt:k<n
   ·have hk2:k<l.length:=by rw[←HL.out];exact hlt
    obtain rfl:=HA.out k hk2
    have c0:=HC.out k hk2 wr hB
    have hnm:=fun w=>KR l[k] w (HLL.out _ (List.getElem_mem hk2))
    have hnx:nameAt l k=(wQ l[k]&&!((l.take k).contains l[k])):=by
     unfold nameAt;rw[List.getD_eq_getElem?_getD,List.getElem?_eq_getElem hk2];rfl
    have hsucc:=OT l k
    rw[hok,Bool.true_and] at hsucc
    have hfalse:=MK l k n hlt
    have hcon:∀ w2,Below w.heap.size w w2→Calls Tryz.prog 125 #[.slice (some ⟨b,o,none⟩) k cap,sv l[k]] w2 (fun e w'=>e=.returned (.bool ((l.take k).contains l[k]))∧w'=w2):=fun w2 h2=>by
     have:=Tryz.slices_Contains_string b o k cap (l.map bs) (bs l[k]) w2 (by rw[List.length_map];omega) (by omega) (fun j hj=>by
      rw[List.length_map] at hj
      have:=HC.out j hj w2 h2
      rw[this,List.getD_eq_getElem?_getD,List.getElem?_map,List.getElem?_eq_getElem hj];rfl)
     rw[←List.map_take,QS] at this
     exact this
    generalize l[k]=s at *
    have vV:=ah hnm
    have HCO:=ah hcon
    have xM:=ah hsucc
    have Am:=ah hfalse
    have hk0:(0:Int)≤(k:Int):=by omega
    have hkm:(k:Int)<(n:Int):=by omega
    have hkc:(k:Int)≤(cap:Int):=by omega
    clear hnm hcon hsucc hfalse hok
    generalize (l.take k).contains s=q at *
    cases hn:wQ s with
    | true =>
     rw[hn] at vV hnx
     cases q with
     | true =>
      have hx:nameAt l k=false:=hnx
      have HX:=ah hx
      clear hx hnx hn
      go_wp2_with (first | (go_at_call 62;go_must (refine(vV.out _).mono ?_;rintro e w1 ⟨rfl,hB1⟩;have hB2:=hB.trans (hB1.mono hB.size))) | (go_at_call 125;go_must (refine(HCO.out _ hB2).mono ?_;rintro e w3 ⟨rfl,rfl⟩)))
      go_ret
      exact⟨by rw[Am.out HX.out];rfl,hB2⟩
     | false =>
      have hx:nameAt l k=true:=hnx
      have HX:=ah hx
      clear hx hnx hn
      go_wp2_with (first | (go_at_call 62;go_must (refine(vV.out _).mono ?_;rintro e w1 ⟨rfl,hB1⟩;have hB2:=hB.trans (hB1.mono hB.size))) | (go_at_call 125;go_must (refine(HCO.out _ hB2).mono ?_;rintro e w3 ⟨rfl,rfl⟩)))
      go_roundw
      case rel=>exact⟨k+1,hlt,by go_num,by rw[xM.out,HX.out],hB2⟩
      case measure=>simp[intOf];omega
    | false =>
     rw[hn] at vV hnx
     have hx:nameAt l k=false:=hnx
     have HX:=ah hx
     clear hx hnx hn
     go_wp2_with (go_at_call 62;go_must (refine(vV.out _).mono ?_;rintro e w1 ⟨rfl,hB1⟩;have hB2:=hB.trans (hB1.mono hB.size)))
     go_ret
     exact⟨by rw[Am.out HX.out];rfl,hB2⟩
   ·obtain rfl:k=n:=by omega
    have yO:=ah hok
    clear hok
    go_wp2
    go_ret
    exact⟨by rw[yO.out];rfl,hB⟩
end
section
open Go.RowKit
structure aF where
 of:Nat→Nat
 width:Int
 next:List (List Int)
 label:List Int
 names:List (List UInt8)
structure au where
 of:Nat→Nat
 width:Int
 na:Option Addr
 nn:Nat
 nc:Nat
 la:Option Addr
 ln:Nat
 lc:Nat
 ma:Option Addr
 mn:Nat
 mc:Nat
def au.cells(V:au):Array Value:=aT V.of++#[.int .i64 V.width,.slice V.na V.nn V.nc,.slice V.la V.ln V.lc,.slice V.ma V.mn V.mc]
theorem au.size(V:au):V.cells.size=260:=by unfold au.cells;rw[Array.size_append,aO];rfl
theorem au.sizes(V U:au):V.cells.size=U.cells.size:=by rw[au.size,au.size]
theorem au.DJ(V:au)(i:Nat)(h:i<256):V.cells[i]?=some (.int .u8 (V.of i:Nat)):=by
 unfold au.cells;rw[Array.getElem?_append_left (by rw[aO];exact h),fF _ _ h]
theorem au.yR(V:au):V.cells[256]?=some (.int .i64 V.width):=by
 unfold au.cells;rw[Array.getElem?_append_right (by rw[aO];exact Nat.le_refl _),aO];rfl
theorem au.uI(V:au):V.cells[257]?=some (.slice V.na V.nn V.nc):=by
 unfold au.cells;rw[Array.getElem?_append_right (by rw[aO];decide),aO];rfl
theorem au.kX(V:au):V.cells[258]?=some (.slice V.la V.ln V.lc):=by
 unfold au.cells;rw[Array.getElem?_append_right (by rw[aO];decide),aO];rfl
theorem au.yS(V:au):V.cells[259]?=some (.slice V.ma V.mn V.mc):=by
 unfold au.cells;rw[Array.getElem?_append_right (by rw[aO];decide),aO];rfl
theorem au.all(V:au):V.cells.all (·.oneCell')=true:=by
 unfold au.cells;rw[Array.all_append,jl,Bool.true_and]
 exact Array.all_eq_true_iff_forall_mem.2 (by intro v hv;simp at hv;rcases hv with rfl | rfl | rfl | rfl <;> rfl)
theorem Box.rG{w:World}{b E:Nat}{V:au}(h:Box w b V.cells E):w.cell? ⟨b,256,none⟩=some (.int .i64 V.width)∧w.cell? ⟨b,257,none⟩=some (.slice V.na V.nn V.nc)∧w.cell? ⟨b,258,none⟩=some (.slice V.la V.ln V.lc)∧w.cell? ⟨b,259,none⟩=some (.slice V.ma V.mn V.mc) :=
 ⟨(h.cell _).trans V.yR,(h.cell _).trans V.uI,(h.cell _).trans V.kX,(h.cell _).trans V.yS⟩
theorem Box.vk{w:World}{b E:Nat}{V:au}(h:Box w b V.cells E):w.rangeAt b 0 (aT V.of).toList:=fun j v hv=>by
 have hj:j<256:=by have:=(List.getElem?_eq_some_iff.1 hv).1;rwa[Array.length_toList,aO] at this
 rw[h.cell,Nat.zero_add,V.DJ j hj]
 rw[Array.getElem?_toList,fF _ _ hj] at hv
 exact hv
attribute [irreducible] au.cells
def kJ(w:World)(V:au)(D:aF):Prop:=V.of=D.of∧V.width=D.width∧ak w (.slice V.la V.ln V.lc) 1 encI D.label∧ak w (.slice V.ma V.mn V.mc) 1 kH D.names ∧
 ∃ rows:List Value,ak w (.slice V.na V.nn V.nc) 1 Zj rows∧rows.length=D.next.length∧∀ i (h1:i<rows.length) (h2:i<D.next.length),∃ a c,rows[i]=.slice a (D.next[i]).length c∧ak w (.slice a (D.next[i]).length c) 1 encI D.next[i]
theorem kJ.kept{w w':World}{V:au}{D:aF}(h:kJ w V D)(hb:Below w.heap.size w w'):kJ w' V D:=by
 obtain⟨h1,h2,h3,h4,rows,h5,h6,h7⟩:=h
 exact⟨h1,h2,h3.kept hb,h4.kept hb,rows,h5.kept hb,h6,fun i a b=>by obtain⟨x,c,e,k⟩:=h7 i a b;exact⟨x,c,e,k.kept hb⟩⟩
theorem kJ.lens{w:World}{V:au}{D:aF}(h:kJ w V D):V.ln=D.label.length∧V.mn=D.names.length∧V.nn=D.next.length:=by
 obtain⟨_,_,h3,h4,rows,h5,h6,_⟩:=h
 obtain⟨_,_,e3,_⟩:=h3.open
 obtain⟨_,_,e4,_⟩:=h4.open
 obtain⟨_,_,e5,_⟩:=h5.open
 exact⟨e3,e4,e5.trans h6⟩
def vw(D:aF)(i:Nat):Bool:=(decide ((((D.next.getD i []).length:Nat):Int)=D.width)&&(decide (0≤D.label.getD i 0)&&decide (D.label.getD i 0≤(D.names.length:Nat))))&&(D.next.getD i []).all fun t=>decide (0≤t)&&decide (t<(D.label.length:Nat))
def kY(D:aF)(k:Nat):Bool:=(List.range k).all (vw D)
theorem QT(D:aF)(k:Nat):kY D (k+1)=(kY D k&&vw D k):=by
 unfold kY;rw[List.range_succ,List.all_append];simp
theorem OU(D:aF)(k n:Nat)(hk:k<n)(h:vw D k=false):kY D n=false:=by
 unfold kY
 rw[List.all_eq_false]
 exact⟨k,by simpa using hk,by simp[h]⟩
def o9(D:aF):Bool:=(decide (1≤D.label.length)&&(decide (D.label.length≤65536)&&decide (D.next.length=D.label.length)))&&((nN (bf (bH (eu D.of))) D.of&&((iZ (bH (eu D.of)):Nat)==D.width))&&(nT D.names&&kY D D.next.length))
theorem ZN:(Tryz.prog.info? 27).map (·.size)=some 260:=by kernel_rfl
theorem bU(V:au):(Tryz.prog.info? 27).map (·.size)=some V.cells.size:=by rw[au.size];exact ZN
theorem ZO{of:Nat→Nat}{wd:Int}{nx:List (List Int)}{lb:List Int}{nm:List (List UInt8)}{n m:Nat}(hn:n=lb.length)(hm:m=nm.length){k:Nat}(h1:k<nx.length)(h2:k<lb.length) :
  vw ⟨of,wd,nx,lb,nm⟩ k=((decide (((nx[k].length:Nat):Int)=wd)&&(decide (0≤lb[k])&&decide (lb[k]≤(m:Nat))))&&nx[k].all fun t=>decide (0≤t)&&decide (t<(n:Nat))):=by
 subst hn;subst hm
 unfold vw
 simp only[List.getD_eq_getElem?_getD,List.getElem?_eq_getElem h1,List.getElem?_eq_getElem h2,Option.getD_some]
def rowAt(r:List Int)(n k:Nat):Bool:=(List.range k).all fun i=>decide (0≤r.getD i 0)&&decide (r.getD i 0<(n:Nat))
theorem UG(r:List Int)(n k:Nat)(h:k<r.length):rowAt r n (k+1)=(rowAt r n k&&(decide (0≤r[k])&&decide (r[k]<(n:Nat)))):=by
 unfold rowAt;rw[List.range_succ,List.all_append];simp[List.getD_eq_getElem?_getD,List.getElem?_eq_getElem h]
theorem rowAt_all(r:List Int)(n:Nat):rowAt r n r.length=r.all fun t=>decide (0≤t)&&decide (t<(n:Nat)):=by
 unfold rowAt
 rw[Bool.eq_iff_iff,List.all_eq_true,List.all_eq_true]
 constructor
 ·intro h t ht
  obtain⟨i,hi,rfl⟩:=List.mem_iff_getElem.1 ht
  have:=h i (by simpa using hi)
  rwa[List.getD_eq_getElem?_getD,List.getElem?_eq_getElem hi] at this
 ·intro h i hi
  have hi2:i<r.length:=by simpa using hi
  rw[List.getD_eq_getElem?_getD,List.getElem?_eq_getElem hi2]
  exact h _ (List.getElem_mem hi2)
theorem all_false{r:List Int}{p:Int→Bool}{k:Nat}(h:k<r.length)(hp:p r[k]=false):r.all p=false:=by
 rw[List.all_eq_false];exact⟨r[k],List.getElem_mem h,by simp[hp]⟩
theorem ZP(V:au)(D:aF)(w:World)(h:kJ w V D)(hnl:D.next.length=D.label.length):Calls Tryz.prog 85 #[.agg V.cells] w (bV w (.bool (kY D D.next.length))):=by
 obtain⟨of,wd,na,nn,nc,la,n,lc,ma,mn,mc⟩:=V
 obtain⟨of',wd',nx,lb,nm⟩:=D
 have hst:=QT ⟨of',wd',nx,lb,nm⟩
 have hfa:=OU ⟨of',wd',nx,lb,nm⟩
 obtain⟨h0,h1,h3,h4,rows,h5,h6,h7⟩:=h
 dsimp only at *
 subst h0
 subst h1
 obtain⟨b5,o5,e5,c5,c5',a5,k5⟩:=h5.dG
 obtain⟨b3,o3,e3,c3,c3',a3,k3⟩:=h3.dG
 obtain⟨_,_,e4,c4,c4',_⟩:=h4.dG
 obtain rfl:nn=n:=by omega
 have hnb:nn≤9223372036854775807:=by omega
 have hmb:mn≤9223372036854775807:=by omega
 rw[show nx.length=nn by omega]
 have hat:=fun k=>@ZO of wd nx lb nm nn mn e3 e4 k
 have HR0:Hid (kY ⟨of,wd,nx,lb,nm⟩ 0=true):=ah rfl
 generalize kY ⟨of,wd,nx,lb,nm⟩=rt at *
 generalize vw ⟨of,wd,nx,lb,nm⟩=ro at *
 have HN:Hid (nx.length=nn∧lb.length=nn∧rows.length=nn):=ah ⟨by omega,by omega,by omega⟩
 have H7:=ah h7
 have HST:=ah hst
 have Am:=ah hfa
 have HAT:=ah hat
 have HK5:=ah k5
 have HK3:=ah k3
 have HA5:=ah a5
 have HA3:=ah a3
 clear hnl h6 h7 hst hfa hat e5 e3 e4 k5 k3 a5 a3 h3 h5 h4 c5 c5' c3 c3' c4 c4'
 have hbx:=Box.new w (au.cells ⟨of,wd,na,nn,nc,la,nn,lc,ma,mn,mc⟩) 27
 have hB0:=aj w (.cells (au.cells ⟨of,wd,na,nn,nc,la,nn,lc,ma,mn,mc⟩) 27)
 obtain⟨x0,x1,x2,x3⟩:=hbx.rG
 dsimp only at x0 x1 x2 x3
 go_enter Tryz.func85,Tryz.ntmps85
 go_wp2
 have aev:=HR0.out
 go_loopw [14] (fun i wr=>∃ k:Nat,k≤nn∧i=.int .i64 k∧rt k=true∧Box wr w.heap.size (au.cells ⟨of,wd,na,nn,nc,la,nn,lc,ma,mn,mc⟩) 27∧Below w.heap.size w wr) (fun i _=>nn - (intOf i).toNat)
 case atStart=>exact⟨0,Nat.zero_le _,rfl,aev,hbx,hB0⟩
 case round =>
  clear x0 x1 x2 x3 hbx hB0 aev
  obtain⟨k,hk,rfl,hok,hbx,hB⟩:=hrel
  obtain⟨x0,x1,x2,x3⟩:=hbx.rG
  dsimp only at x0 x1 x2 x3
  by_cases hlt:k<nn
  ·have hk1:k<nx.length:=by rw[HN.out.1];exact hlt
   have hk2:k<lb.length:=by rw[HN.out.2.1];exact hlt
   have hk3:k<rows.length:=by rw[HN.out.2.2];exact hlt
   obtain rfl:=HA5.out k hk3
   obtain rfl:=HA3.out k hk2
   have c5:=HK5.out k hk3 wr hB
   have c3:=HK3.out k hk2 wr hB
   have hro:=HAT.out k hk1 hk2
   obtain⟨ra,rc,hr,hrs⟩:=H7.out k hk3 hk1
   rw[hr] at c5
   have hsucc:=HST.out k
   rw[hok,Bool.true_and] at hsucc
   have hfalse:=Am.out k nn hlt
   generalize nx[k]=row at *
   generalize lb[k]=lab at *
   have IK:=ah hro
   have xM:=ah hsucc
   have Dw:=ah hfalse
   have hk0:(0:Int)≤(k:Int):=by omega
   have hkm:(k:Int)<(nn:Int):=by omega
   clear hro hr hsucc hfalse hok
   have hrl:row.length≤9223372036854775807:=by obtain⟨_,_,_,h1,h2,_⟩:=hrs.dG;omega
   obtain⟨b6,o6,_,_,_,a6,k6⟩:=hrs.dG
   have hra:=fun q=>UG row nn q
   have hrz:=rowAt_all row nn
   have aew:=fun q h hp=>all_false (r:=row) (p:=fun t=>decide (0≤t)&&decide (t<(nn:Nat))) (k:=q) h hp
   obtain⟨r,hrr⟩:∃ r,row.length=r:=⟨_,rfl⟩
   rw[hrr] at hrl
   have HRR:=ah hrr
   have HRA:=ah hra
   have HRZ:=ah hrz
   have HRF:=ah aew
   have HA6:=ah a6
   have Xr:=ah k6
   rw[hrr] at c5
   have aex:ro k=((decide (((r:Nat):Int)=wd)&&(decide (0≤lab)&&decide (lab≤(mn:Nat))))&&row.all fun t=>decide (0≤t)&&decide (t<(nn:Nat))):=by rw[IK.out,HRR.out]
   have J5:=ah aex
   have HF:Hid (∀ v,Later wr.drew v→Box v w.heap.size (au.cells ⟨of,wd,some ⟨b5,o5,none⟩,nn,nc,some ⟨b3,o3,none⟩,nn,lc,ma,mn,mc⟩) 27∧v.cell? ⟨b5,o5+k,none⟩=some (.slice ra r rc)∧v.cell? ⟨b3,o3+k,none⟩=some (.int .i64 lab)∧Below w.heap.size w v):=ah fun v hl =>
    ⟨hbx.drew.kept hl,(Below.cell hl (World.block_lt_of_cell? wr _ c5)).trans c5,(Below.cell hl (World.block_lt_of_cell? wr _ c3)).trans c3,hB.drew.trans (Below.mono hl hB.size)⟩
   clear aex hrr hra hrz aew a6 k6 hrs IK
   clear hbx hB x0 x1 x2 x3
   have c5':=(HF.out wr.drew (Below.refl _ _)).2.1
   have c3':=(HF.out wr.drew (Below.refl _ _)).2.2.1
   by_cases h1:(r:Int)=wd
   ·have e1:((r:Int) != wd)=false:=by simp[h1]
    by_cases h2:lab<0
    ·have e2:decide (lab<0)=true:=by simp[h2]
     go_wp2_with fail
     refine aW (R:=Later) 24 (by kernel_rfl) ?_
     refine pl [0,1,2,3,4,5,6,7,8,9,10,11,12,13] ?_
     repeat
      refine jW ?_ rfl (fun w1 hl=>?_) ?_
      rotate_left
      ·obtain⟨hbx,c5,c3,_⟩:=HF.out w1 hl;obtain⟨x0,x1,x2,x3⟩:=hbx.rG;dsimp only at x0 x1 x2 x3;go_simp;try with_reducible rfl
      simp only[eA,eB,eC,Act.put,eD,eE,eF]
     refine eX ?_
     refine oq 14 rfl ?_
     simp only[eA,eB,eC,Act.put,eD,eE,eF]
     refine oq 15 rfl ?_
     simp only[eA,eB,eC,Act.put,eD,eE,eF]
     refine oq 16 rfl ?_
     simp only[eA,eB,eC,Act.put,eD,eE,eF]
     refine oq 17 rfl ?_
     simp only[eA,eB,eC,Act.put,eD,eE,eF]
     refine oq 18 rfl ?_
     simp only[eA,eB,eC,Act.put,eD,eE,eF]
     refine oq 19 rfl ?_
     simp only[eA,eB,eC,Act.put,eD,eE,eF]
     refine oq 20 rfl ?_
     simp only[eA,eB,eC,Act.put,eD,eE,eF]
     refine oq 21 rfl ?_
     simp only[eA,eB,eC,Act.put,eD,eE,eF]
     refine oq 22 rfl ?_
     simp only[eA,eB,eC,Act.put,eD,eE,eF]
     refine kP 23 ?_ rfl (fun w1 hl=>?_) ?_
     rotate_left
     ·obtain⟨hbx,c5,c3,_⟩:=HF.out w1 hl;obtain⟨x0,x1,x2,x3⟩:=hbx.rG;dsimp only at x0 x1 x2 x3;go_simp;try with_reducible rfl
     simp only[eA,eB,eC,Act.put,eD,eE,eF]
     refine bC (by kernel_rfl) (fun w1 hl=>?_) _
     have mQ:=(HF.out _ hl).2.2.2
     go_wp2
     go_ret
     exact⟨by rw[Dw.out (by rw[J5.out];simp;omega)];rfl,mQ⟩
    ·have e2:decide (lab<0)=false:=by simp;omega
     by_cases h3:(mn:Int)<lab
     ·have e3:decide ((mn:Int)<lab)=true:=by simp[h3]
      go_wp2_with fail
      refine aW (R:=Later) 24 (by kernel_rfl) ?_
      refine pl [0,1,2,3,4,5,6,7,8,9,10,11,12,13,14,15,16,17,18,19,20,21,22,23] ?_
      repeat
       refine jW ?_ rfl (fun w1 hl=>?_) ?_
       rotate_left
       ·obtain⟨hbx,c5,c3,_⟩:=HF.out w1 hl;obtain⟨x0,x1,x2,x3⟩:=hbx.rG;dsimp only at x0 x1 x2 x3;go_simp;try with_reducible rfl
       simp only[eA,eB,eC,Act.put,eD,eE,eF]
      refine eX ?_
      refine bC (by kernel_rfl) (fun w1 hl=>?_) _
      have mQ:=(HF.out _ hl).2.2.2
      go_wp2
      go_ret
      exact⟨by rw[Dw.out (by rw[J5.out];simp;omega)];rfl,mQ⟩
     ·have e3:decide ((mn:Int)<lab)=false:=by simp;omega
      go_wp2_with fail
      refine aW (R:=Later) 24 (by kernel_rfl) ?_
      refine pl [0,1,2,3,4,5,6,7,8,9,10,11,12,13,14,15,16,17,18,19,20,21,22,23] ?_
      repeat
       refine jW ?_ rfl (fun w1 hl=>?_) ?_
       rotate_left
       ·obtain⟨hbx,c5,c3,_⟩:=HF.out w1 hl;obtain⟨x0,x1,x2,x3⟩:=hbx.rG;dsimp only at x0 x1 x2 x3;go_simp;try with_reducible rfl
       simp only[eA,eB,eC,Act.put,eD,eE,eF]
      refine eX ?_
      refine bC (by kernel_rfl) (fun w1 hl=>?_) _
      have hF9:=HF.out _ hl
      clear hl
      go_wp2
      have hrow0:rowAt row nn 0=true:=rfl
      have HF9:=ah hF9
      obtain⟨aey,_,_,mQ⟩:=hF9
      go_loopw [45] (fun i wr=>∃ q:Nat,q≤r∧i=.int .i64 q∧rowAt row nn q=true∧Box wr w.heap.size (au.cells ⟨of,wd,some ⟨b5,o5,none⟩,nn,nc,some ⟨b3,o3,none⟩,nn,lc,ma,mn,mc⟩) 27∧Below w.heap.size w wr) (fun i _=>r - (intOf i).toNat)
      case atStart=>exact⟨0,Nat.zero_le _,rfl,hrow0,aey,mQ⟩
      case round =>
       clear hrow0 aey mQ
       obtain⟨q,hq,rfl,hrq,hbx,hB⟩:=hrel
       by_cases hlt3:q<r
       ·have hq2:q<row.length:=by rw[HRR.out];exact hlt3
        obtain rfl:=HA6.out q hq2
        have c6:=Xr.out q hq2 wr hB
        have hra:=HRA.out q hq2
        have hrf:=HRF.out q hq2
        rw[hrq,Bool.true_and] at hra
        generalize row[q]=tt at *
        have ajc:=ah hra
        have aez:=ah hrf
        have hq0:(0:Int)≤(q:Int):=by omega
        have hqm:(q:Int)<(r:Int):=by omega
        clear hra hrf hrq
        by_cases t1:tt<0
        ·have e4:decide (tt<0)=true:=by simp[t1]
         go_wp2
         go_ret
         exact⟨by rw[Dw.out (by rw[J5.out,aez.out (by simp;omega),Bool.and_false])];rfl,hB⟩
        ·have e4:decide (tt<0)=false:=by simp;omega
         by_cases t2:(nn:Int)≤tt
         ·have e5:decide ((nn:Int)≤tt)=true:=by simp[t2]
          go_wp2
          go_ret
          exact⟨by rw[Dw.out (by rw[J5.out,aez.out (by simp;omega),Bool.and_false])];rfl,hB⟩
         ·have e5:decide ((nn:Int)≤tt)=false:=by simp;omega
          go_wp2
          go_roundw
          case rel=>exact⟨q+1,hlt3,by go_num,by rw[ajc.out];simp;omega,hbx,hB⟩
          case measure=>simp[intOf];omega
       ·obtain rfl:q=r:=by omega
        have hall:(row.all fun t=>decide (0≤t)&&decide (t<(nn:Nat)))=true:=by rw[←HRZ.out,HRR.out];exact hrq
        have J6:ro k=true:=by rw[J5.out,hall];simp;omega
        have HRK:=ah J6
        clear hall J6 hrq
        go_wp2
        go_roundw
        case rel=>exact⟨k+1,hlt,by go_num,by rw[xM.out,HRK.out],hbx,hB⟩
        case measure=>simp[intOf];omega
   ·have e1:((r:Int) != wd)=true:=by simp[h1]
    go_wp2_with fail
    refine aW (R:=Later) 24 (by kernel_rfl) ?_
    refine pl [0,1,2,3,4,5] ?_
    repeat
     refine jW ?_ rfl (fun w1 hl=>?_) ?_
     rotate_left
     ·obtain⟨hbx,c5,c3,_⟩:=HF.out w1 hl;obtain⟨x0,x1,x2,x3⟩:=hbx.rG;dsimp only at x0 x1 x2 x3;go_simp;try with_reducible rfl
     simp only[eA,eB,eC,Act.put,eD,eE,eF]
    refine eX ?_
    refine oq 6 rfl ?_
    simp only[eA,eB,eC,Act.put,eD,eE,eF]
    refine oq 7 rfl ?_
    simp only[eA,eB,eC,Act.put,eD,eE,eF]
    refine oq 8 rfl ?_
    simp only[eA,eB,eC,Act.put,eD,eE,eF]
    refine oq 9 rfl ?_
    simp only[eA,eB,eC,Act.put,eD,eE,eF]
    refine oq 10 rfl ?_
    simp only[eA,eB,eC,Act.put,eD,eE,eF]
    refine oq 11 rfl ?_
    simp only[eA,eB,eC,Act.put,eD,eE,eF]
    refine pl [12,13] ?_
    repeat
     refine jW ?_ rfl (fun w1 hl=>?_) ?_
     rotate_left
     ·obtain⟨hbx,c5,c3,_⟩:=HF.out w1 hl;obtain⟨x0,x1,x2,x3⟩:=hbx.rG;dsimp only at x0 x1 x2 x3;go_simp;try with_reducible rfl
     simp only[eA,eB,eC,Act.put,eD,eE,eF]
    refine eX ?_
    refine oq 14 rfl ?_
    simp only[eA,eB,eC,Act.put,eD,eE,eF]
    refine oq 15 rfl ?_
    simp only[eA,eB,eC,Act.put,eD,eE,eF]
    refine oq 16 rfl ?_
    simp only[eA,eB,eC,Act.put,eD,eE,eF]
    refine oq 17 rfl ?_
    simp only[eA,eB,eC,Act.put,eD,eE,eF]
    refine oq 18 rfl ?_
    simp only[eA,eB,eC,Act.put,eD,eE,eF]
    refine oq 19 rfl ?_
    simp only[eA,eB,eC,Act.put,eD,eE,eF]
    refine oq 20 rfl ?_
    simp only[eA,eB,eC,Act.put,eD,eE,eF]
    refine oq 21 rfl ?_
    simp only[eA,eB,eC,Act.put,eD,eE,eF]
    refine oq 22 rfl ?_
    simp only[eA,eB,eC,Act.put,eD,eE,eF]
    refine kP 23 ?_ rfl (fun w1 hl=>?_) ?_
    rotate_left
    ·obtain⟨hbx,c5,c3,_⟩:=HF.out w1 hl;obtain⟨x0,x1,x2,x3⟩:=hbx.rG;dsimp only at x0 x1 x2 x3;go_simp;try with_reducible rfl
    simp only[eA,eB,eC,Act.put,eD,eE,eF]
    refine bC (by kernel_rfl) (fun w1 hl=>?_) _
    have mQ:=(HF.out _ hl).2.2.2
    go_wp2
    go_ret
    exact⟨by rw[Dw.out (by rw[J5.out];simp[h1])];rfl,mQ⟩
  ·obtain rfl:k=nn:=by omega
   have yO:=ah hok
   clear hok
   go_wp2
   go_ret
   exact⟨by rw[yO.out];rfl,hB⟩
theorem EO{P:Program}{ops:Array Oper}{rest:List Oper}{op:Oper}{a:Act}{w:World}{Q:Exit→Act→World→Prop}(hw:Region.wanted op (yielded ops a.tmps)=true)(ty:TypeId)(x:Operand)(ho:op.op=.load ty x)
  (b o:Nat) (hx:a.eval x=.pointer (some ⟨b,o,none⟩)) (cs:List Value) (d:TypeDesc) (hc:w.rangeAt b o cs)
  (hu:P.underlying ty=some d) (hd:d.isRow=true) (hi:(P.info? ty).map (·.size)=some cs.length)
  (h:wpList P ops Q rest (a.put op.dst (.agg cs.toArray)) w):wpList P ops Q (op::rest) a w :=
 BigFrame.wpList_want hw fun _ hK=>wp_load_mid ty x ho b o hx cs d hc hu hd hi (hK _ _ h)
theorem uJ{P:Program}{ops:Array Oper}{rest:List Oper}{op:Oper}{a:Act}{w:World}{Q:Exit→Act→World→Prop}(hw:Region.wanted op (yielded ops a.tmps)=true)(ty:TypeId)(x:Operand)(ho:op.op=.load ty x)
  (b:Nat) (hx:a.eval x=.pointer (some ⟨b,0,none⟩)) {V:au} {E:TypeId} (hb:Box w b V.cells E) {d:TypeDesc}
  (hu:P.underlying ty=some d) (hd:d.isRow=true) (hi:(P.info? ty).map (·.size)=some (aT V.of).size)
  (h:wpList P ops Q rest (a.put op.dst (.agg (aT V.of))) w):wpList P ops Q (op::rest) a w :=
 EO hw ty x ho b 0 hx (aT V.of).toList d hb.vk hu hd (by rw[Array.length_toList];exact hi) h
end
section
open Go.RowKit
theorem DK(V:au)(D:aF)(w:World)(h:kJ w V D)(hl:∀ x∈D.names,x.length≤9223372036854775807):Calls Tryz.prog 40 #[.agg V.cells] w (bV w (.bool (o9 D))):=by
 have hbx:=Box.new w V.cells 27
 have hB0:=aj w (.cells V.cells 27)
 obtain⟨x0,x1,x2,x3⟩:=hbx.rG
 obtain⟨e1,e2,e3⟩:=h.lens
 have hk:=fun w1 (hb:Below w.heap.size w w1)=>h.kept hb
 have hpr:=fun w1=>QA V.of V.width w1
 have hnm:=fun w1 (hb:Below w.heap.size w w1)=>Xq V.ma V.mc V.mn D.names w1 (by have:=h.2.2.2.1;rw[←e2] at *;exact this.kept hb) hl
 have hrw:=fun w1 (hb:Below w.heap.size w w1) hnl=>ZP V D w1 (h.kept hb) hnl
 have hnb:V.ln≤9223372036854775807:=by obtain⟨_,_,_,c3,c3',_⟩:=h.2.2.1.dG;omega
 have BH:V.nn≤9223372036854775807:=by obtain⟨_,h5,_,_⟩:=h.2.2.2.2;obtain⟨_,_,_,c3,c3',_⟩:=h5.dG;omega
 have hr:o9 D=((decide (1≤V.ln)&&(decide (V.ln≤65536)&&decide (V.nn=V.ln)))&&((nN (bf (bH (eu V.of))) V.of&&((iZ (bH (eu V.of)):Nat)==V.width))&&(nT D.names&&kY D D.next.length))):=by
  rw[e1,e3,h.1,h.2.1];rfl
 have OV:V.nn=V.ln→D.next.length=D.label.length:=fun e=>by omega
 rw[hr]
 have ajd:=ah OV
 have HPR:=ah hpr
 have vV:=ah hnm
 clear hk hpr hnm hr OV e1 e2 e3
 generalize hp:(nN (bf (bH (eu V.of))) V.of&&((iZ (bH (eu V.of)):Nat)==V.width))=p at *
 generalize nT D.names=nm at *
 generalize kY D D.next.length=rw at *
 clear hp h hl
 by_cases b1:1≤V.ln
 ·have e1:decide (1≤(V.ln:Int))=true:=by simp;omega
  by_cases b2:V.ln≤65536
  ·have e2:decide ((V.ln:Int)≤65536)=true:=by simp;omega
   by_cases b3:V.nn=V.ln
   ·have HRW:=ah (fun w1 hb=>hrw w1 hb (ajd.out b3))
    have q:(decide (1≤V.ln)&&(decide (V.ln≤65536)&&decide (V.nn=V.ln)))=true:=by simp[b1,b2,b3]
    rw[q,Bool.true_and]
    have e3:((V.nn:Int)==(V.ln:Int))=true:=by simp[b3]
    have e3':(V.nn==V.ln)=true:=by simp[b3]
    clear b1 b2 b3 q hrw
    cases p with
    | false =>
     go_enter Tryz.func40,Tryz.ntmps40
     go_wp2_with (first | (refine uJ (by rfl) 22 _ rfl w.heap.size rfl hbx Tryz.underlying22 rfl (bG _) ?_) | (go_at_call 83;go_must (refine(HPR.out _).mono ?_;rintro e w1 ⟨rfl,hB1⟩;have dW:=hbx.kept hB1;have hB1:=hB0.trans (hB1.mono (by simp));obtain⟨y0,y1,y2,y3⟩:=dW.rG)) | (go_at_call 84;go_must (refine(vV.out _ hB1).mono ?_;rintro e w2 ⟨rfl,hB2⟩;have hbx2:=dW.kept hB2;have hB2:=hB1.trans (hB2.mono hB1.size))) | (refine dL (by rfl) 27 _ rfl w.heap.size rfl _ _ _ _ hbx2 Tryz.underlying27 rfl (bU _) ?_) | (go_at_call 85;go_must (refine(HRW.out _ hB2).mono ?_;rintro e w3 ⟨rfl,hB3⟩)))
     go_ret
     exact⟨rfl,hB1⟩
    | true =>
     cases nm with
     | false =>
      go_enter Tryz.func40,Tryz.ntmps40
      go_wp2_with (first | (refine uJ (by rfl) 22 _ rfl w.heap.size rfl hbx Tryz.underlying22 rfl (bG _) ?_) | (go_at_call 83;go_must (refine(HPR.out _).mono ?_;rintro e w1 ⟨rfl,hB1⟩;have dW:=hbx.kept hB1;have hB1:=hB0.trans (hB1.mono (by simp));obtain⟨y0,y1,y2,y3⟩:=dW.rG)) | (go_at_call 84;go_must (refine(vV.out _ hB1).mono ?_;rintro e w2 ⟨rfl,hB2⟩;have hbx2:=dW.kept hB2;have hB2:=hB1.trans (hB2.mono hB1.size))) | (refine dL (by rfl) 27 _ rfl w.heap.size rfl _ _ _ _ hbx2 Tryz.underlying27 rfl (bU _) ?_) | (go_at_call 85;go_must (refine(HRW.out _ hB2).mono ?_;rintro e w3 ⟨rfl,hB3⟩)))
      go_ret
      exact⟨rfl,hB2⟩
     | true =>
      go_enter Tryz.func40,Tryz.ntmps40
      go_wp2_with (first | (refine uJ (by rfl) 22 _ rfl w.heap.size rfl hbx Tryz.underlying22 rfl (bG _) ?_) | (go_at_call 83;go_must (refine(HPR.out _).mono ?_;rintro e w1 ⟨rfl,hB1⟩;have dW:=hbx.kept hB1;have hB1:=hB0.trans (hB1.mono (by simp));obtain⟨y0,y1,y2,y3⟩:=dW.rG)) | (go_at_call 84;go_must (refine(vV.out _ hB1).mono ?_;rintro e w2 ⟨rfl,hB2⟩;have hbx2:=dW.kept hB2;have hB2:=hB1.trans (hB2.mono hB1.size))) | (refine dL (by rfl) 27 _ rfl w.heap.size rfl _ _ _ _ hbx2 Tryz.underlying27 rfl (bU _) ?_) | (go_at_call 85;go_must (refine(HRW.out _ hB2).mono ?_;rintro e w3 ⟨rfl,hB3⟩)))
      go_ret
      exact⟨rfl,hB2.trans (hB3.mono hB2.size)⟩
   ·have q:(decide (1≤V.ln)&&(decide (V.ln≤65536)&&decide (V.nn=V.ln)))=false:=by simp[b3]
    rw[q,Bool.false_and]
    have e3:((V.nn:Int)==(V.ln:Int))=false:=by simp;omega
    have e3':(V.nn==V.ln)=false:=by simp[b3]
    clear b1 b2 b3 q hrw
    go_enter Tryz.func40,Tryz.ntmps40
    go_wp2
    go_ret
    exact⟨rfl,hB0⟩
  ·have q:(decide (1≤V.ln)&&(decide (V.ln≤65536)&&decide (V.nn=V.ln)))=false:=by simp[b2]
   rw[q,Bool.false_and]
   have e2:decide ((V.ln:Int)≤65536)=false:=by simp;omega
   clear b1 b2 q hrw
   go_enter Tryz.func40,Tryz.ntmps40
   go_wp2
   go_ret
   exact⟨rfl,hB0⟩
 ·have q:(decide (1≤V.ln)&&(decide (V.ln≤65536)&&decide (V.nn=V.ln)))=false:=by simp[b1]
  rw[q,Bool.false_and]
  have e1:decide (1≤(V.ln:Int))=false:=by simp;omega
  clear b1 q hrw
  go_enter Tryz.func40,Tryz.ntmps40
  go_wp2
  go_ret
  exact⟨rfl,hB0⟩
end
section
open Go.RowKit
def mV(D:aF)(s:Nat)(b:UInt8):Nat:=((D.next.getD s []).getD (D.of b.toNat) 0).toNat
def bK(D:aF)(s:Nat)(w:List UInt8):Nat:=w.foldl (mV D) s
def labS(D:aF)(s:Nat):Int:=D.label.getD s 0
def yT(D:aF)(s:Nat):Prop:=∀ w:List UInt8,labS D (bK D s w)=0
def dZ(D:aF):Nat→List UInt8→Option (Int×Nat)
 | _,[]=>none
 | s,b::w=>match dZ D (mV D s b) w with
  | some r=>some (r.1,r.2+1)
  | none=>if labS D (mV D s b)=0 then none else some (labS D (mV D s b),1)
theorem rH(D:aF)(s:Nat)(b:UInt8)(w:List UInt8):bK D s (b::w)=bK D (mV D s b) w:=rfl
theorem QU(D:aF)(s:Nat)(v w:List UInt8):bK D s (v++w)=bK D (bK D s v) w:=by unfold bK;rw[List.foldl_append]
theorem yT.go{D:aF}{s:Nat}(h:yT D s)(b:UInt8):yT D (mV D s b):=fun w=>h (b::w)
theorem IL{D:aF}:∀ (w:List UInt8) {s:Nat},yT D s→dZ D s w=none
 | [],_,_=>rfl
 | b::w,s,h=>by rw[dZ,IL w (h.go b)];exact if_pos (h [b])
theorem wV{D:aF}:∀ (w:List UInt8) {s:Nat} {k:Int} {n:Nat},dZ D s w=some (k,n)→0<n∧n≤w.length∧k≠0∧labS D (bK D s (w.take n))=k∧∀ m,n<m→m≤w.length→labS D (bK D s (w.take m))=0
 | [],_,_,_,h=>by simp[dZ] at h
 | b::w,s,k,n,h=>by
  rw[dZ] at h
  have ZQ:∀ (w:List UInt8) (s:Nat),dZ D s w=none→∀ m,0<m→m≤w.length→labS D (bK D s (w.take m))=0:=by
   intro w
   induction w with
   | nil=>intro s _ m h1 h2;simp at h2;omega
   | cons b w ih =>
    intro s h m h1 h2
    rw[dZ] at h
    cases hb:dZ D (mV D s b) w with
    | some r=>rw[hb] at h;simp at h
    | none =>
     rw[hb] at h
     obtain⟨m,rfl⟩:∃ j,m=j+1:=⟨m - 1,by omega⟩
     rw[List.take_succ_cons,rH]
     rw[List.length_cons] at h2
     cases m with
     | zero =>
      dsimp only at h
      by_cases h0:labS D (mV D s b)=0
      ·exact h0
      ·rw[if_neg h0] at h;simp at h
     | succ m=>exact ih _ hb (m+1) (by omega) (by omega)
  cases hb:dZ D (mV D s b) w with
  | some r =>
   obtain⟨k',n'⟩:=r
   rw[hb] at h
   dsimp only at h
   obtain⟨rfl,rfl⟩:=Prod.mk.inj (Option.some.inj h)
   obtain⟨h1,h2,h3,h4,h5⟩:=wV w hb
   refine⟨by omega,by rw[List.length_cons];omega,h3,?_,fun m hm hl=>?_⟩
   ·rw[List.take_succ_cons,rH];exact h4
   ·obtain⟨m,rfl⟩:∃ j,m=j+1:=⟨m - 1,by omega⟩
    rw[List.length_cons] at hl
    rw[List.take_succ_cons,rH];exact h5 m (by omega) (by omega)
  | none =>
   rw[hb] at h
   dsimp only at h
   by_cases h0:labS D (mV D s b)=0
   ·rw[if_pos h0] at h;simp at h
   ·rw[if_neg h0] at h
    obtain⟨rfl,rfl⟩:=Prod.mk.inj (Option.some.inj h)
    refine⟨by omega,by rw[List.length_cons];omega,h0,?_,fun m hm hl=>?_⟩
    ·rw[List.take_succ_cons,List.take_zero];rfl
    ·obtain⟨m,rfl⟩:∃ j,m=j+1:=⟨m - 1,by omega⟩
     rw[List.length_cons] at hl
     rw[List.take_succ_cons,rH];exact ZQ w _ hb m (by omega) (by omega)
theorem wW{D:aF}:∀ (v w:List UInt8) {s:Nat},yT D (bK D s v)→dZ D s (v++w)=dZ D s v
 | [],w,_,h=>IL w h
 | b::v,w,s,h=>by rw[List.cons_append,dZ,dZ,wW v w h]
theorem IQ{D:aF}:∀ (v:List UInt8) (c:UInt8) {s:Nat},dZ D s (v++[c])=if labS D (bK D s (v++[c]))=0 then dZ D s v else some (labS D (bK D s (v++[c])),v.length+1)
 | [],c,s=>by
  rw[List.nil_append,dZ];rfl
 | b::v,c,s=>by
  rw[List.cons_append,dZ,IQ v c,rH]
  by_cases h:labS D (bK D (mV D s b) (v++[c]))=0
  ·rw[if_pos h,if_pos h,dZ]
  ·rw[if_neg h,if_neg h];rfl
def qC(D:aF)(w:List UInt8)(at_:Nat):Option (Int×Nat):=(dZ D 0 (w.drop at_)).map fun r=>(r.1,at_+r.2)
def jv(D:aF)(w:List UInt8):Nat→Nat→List (Int×Nat×Nat)×Nat
 | 0,at_=>([],at_)
 | f+1,at_=>match qC D w at_ with
  | none=>([],at_)
  | some r=>((r.1,at_,r.2)::(jv D w f r.2).1,(jv D w f r.2).2)
theorem yU{D:aF}{w:List UInt8}{at_:Nat}{k:Int}{e:Nat}(h:qC D w at_=some (k,e)):at_<e∧e≤w.length∧k≠0∧labS D (bK D 0 ((w.drop at_).take (e - at_)))=k∧∀ m,e<m→m≤w.length→labS D (bK D 0 ((w.drop at_).take (m - at_)))=0:=by
 unfold qC at h
 cases hb:dZ D 0 (w.drop at_) with
 | none=>rw[hb] at h;simp at h
 | some r =>
  obtain⟨k',n⟩:=r
  rw[hb] at h
  simp only[Option.map_some,Option.some.injEq,Prod.mk.injEq] at h
  obtain⟨rfl,rfl⟩:=h
  obtain⟨g1,g2,g3,g4,g5⟩:=wV _ hb
  rw[List.length_drop] at g2 g5
  refine⟨by omega,by omega,g3,?_,fun m hm hl=>?_⟩
  ·rw[show at_+n - at_=n by omega];exact g4
  ·exact g5 (m - at_) (by omega) (by omega)
theorem IU{D:aF}{w:List UInt8}:∀ (f at_:Nat),w.length≤at_+f→jv D w (f+1) at_=jv D w f at_
 | 0,at_,h=>by
  have:qC D w at_=none:=by
   cases ht:qC D w at_ with
   | none=>rfl
   | some r=>obtain⟨k,e⟩:=r;have:=yU ht;omega
  rw[jv,jv,this]
 | f+1,at_,h=>by
  rw[jv,jv]
  cases ht:qC D w at_ with
  | none=>rfl
  | some r =>
   obtain⟨k,e⟩:=r
   have:=yU ht
   dsimp only
   rw[IU f e (by omega)]
end
section
open Go.RowKit
theorem ZR{D:aF}(h:o9 D=true):(∀ b,b<256→bf (bH (eu D.of)) b=D.of b)∧((iZ (bH (eu D.of)):Nat):Int)=D.width:=by
 unfold o9 at h
 simp only[Bool.and_eq_true,decide_eq_true_eq,beq_iff_eq] at h
 exact⟨(ER _ _).1 h.2.1.1,h.2.1.2⟩
theorem ada{R:Nat→Nat→Bool}(E:xH R)(k:Nat)(h:k<(aK R 256).length):bf R (aK R 256)[k]=k:=by
 unfold bf
 rw[F7 h (E.refl _) fun i hi=>rW E 256 _ _ (List.getElem_mem h) (uQ R 256 i k hi h)]
 rfl
end
section
open Go.RowKit
def jS:List Nat→List Nat→List Nat
 | [],ws=>ws
 | t::ts,ws=>jS ts (if ws.contains t then ws else ws++[t])
def kZ(on:Nat→List Nat):Nat→Nat→List Nat→List Nat
 | 0,_,ws=>ws
 | f+1,i,ws=>match ws[i]? with
  | none=>ws
  | some s=>kZ on f (i+1) (jS (on s) ws)
theorem DL:∀ (a b ws:List Nat),jS (a++b) ws=jS b (jS a ws)
 | [],_,_=>rfl
 | t::a,b,ws=>by rw[List.cons_append,jS,jS,DL a b]
theorem DN:∀ (ts ws:List Nat),ws <+: jS ts ws
 | [],ws=>List.prefix_refl _
 | t::ts,ws=>by
  rw[jS]
  refine List.IsPrefix.trans ?_ (DN ts _)
  split
  ·exact List.prefix_refl _
  ·exact List.prefix_append _ _
theorem rJ:∀ (ts ws:List Nat) (x:Nat),x∈jS ts ws↔x∈ws∨x∈ts
 | [],ws,x=>by simp[jS]
 | t::ts,ws,x=>by
  rw[jS,rJ ts]
  by_cases h:ws.contains t=true
  ·rw[if_pos h]
   have h2:t∈ws:=List.contains_iff_mem.1 h
   simp only[List.mem_cons]
   constructor
   ·rintro(a | a)
    ·exact .inl a
    ·exact .inr (.inr a)
   ·rintro(a | rfl | a)
    ·exact .inl a
    ·exact .inl h2
    ·exact .inr a
  ·rw[if_neg h]
   simp only[List.mem_append,List.mem_cons,List.not_mem_nil,or_false]
   constructor
   ·rintro((a | a) | a)
    ·exact .inl a
    ·exact .inr (.inl a)
    ·exact .inr (.inr a)
   ·rintro(a | a | a)
    ·exact .inl (.inl a)
    ·exact .inl (.inr a)
    ·exact .inr a
theorem vC:∀ (ts ws:List Nat),ws.Nodup→(jS ts ws).Nodup
 | [],ws,h=>h
 | t::ts,ws,h=>by
  rw[jS]
  refine vC ts _ ?_
  split
  ·exact h
  ·rename_i hc
   rw[List.nodup_append]
   refine⟨h,List.pairwise_singleton _ _,?_⟩
   intro a ha b hb
   rw[List.mem_singleton] at hb
   subst hb
   rintro rfl
   exact hc (List.contains_iff_mem.2 ha)
inductive BI (on:Nat→List Nat):Nat→Nat→Prop
 | here (s:Nat):BI on s s
 | on {s t u:Nat}:BI on s t→u∈on t→BI on s u
theorem nodup_lt_length(n:Nat)(l:List Nat)(hn:l.Nodup)(hl:∀ x∈l,x<n):l.length≤n:=by
 induction n generalizing l with
 | zero =>
  cases l with
  | nil=>exact Nat.le_refl _
  | cons x l=>exact absurd (hl x (List.mem_cons_self ..)) (Nat.not_lt_zero _)
 | succ n ih =>
  have h1:=ih (l.erase n) (hn.erase n) (fun x hx=>by
   obtain⟨a,b⟩:=(hn.mem_erase_iff).1 hx
   have:=hl x b;omega)
  by_cases hm:n∈l
  ·rw[List.length_erase_of_mem hm] at h1;omega
  ·rw[List.erase_of_not_mem hm] at h1;omega
theorem BJ(on:Nat→List Nat)(n:Nat)(hon:∀ x,x<n→∀ t∈on x,t<n):∀ (f i:Nat) (ws:List Nat),ws.Nodup→(∀ x∈ws,x<n)→n≤f+i→(∀ j (_:j<i) (h:j<ws.length),∀ t∈on ws[j],t∈ws) →
  ws <+: kZ on f i ws∧(kZ on f i ws).Nodup∧(∀ x∈kZ on f i ws,x<n)∧(∀ x∈kZ on f i ws,∀ t∈on x,t∈kZ on f i ws)∧(∀ x∈kZ on f i ws,∃ s∈ws,BI on s x)
 | 0,i,ws,hnd,hlt,hf,hc=>by
  have hl:=nodup_lt_length n ws hnd hlt
  simp only[kZ]
  refine⟨List.prefix_refl _,hnd,hlt,fun x hx t ht=>?_,fun x hx=>⟨x,hx,.here x⟩⟩
  obtain⟨j,hj,rfl⟩:=List.mem_iff_getElem.1 hx
  exact hc j (by omega) hj t ht
 | f+1,i,ws,hnd,hlt,hf,hc=>by
  rw[kZ]
  by_cases h:i<ws.length
  ·rw[List.getElem?_eq_getElem h]
   dsimp only
   have hs:ws[i]<n:=hlt _ (List.getElem_mem h)
   have hp:=DN (on ws[i]) ws
   obtain⟨h1,h2,h3,h4,h5⟩:=BJ on n hon f (i+1) (jS (on ws[i]) ws) (vC _ _ hnd) (fun x hx=>by
     rcases (rJ _ _ _).1 hx with a | a
     ·exact hlt x a
     ·exact hon _ hs x a) (by omega) (fun j hj hl t ht=>by
     rw[rJ]
     by_cases e:j=i
     ·subst e
      have e2:(jS (on ws[j]) ws)[j]=ws[j]:=(hp.getElem h).symm
      rw[e2] at ht
      exact .inr ht
     ·have hjl:j<ws.length:=by omega
      have e2:(jS (on ws[i]) ws)[j]=ws[j]:=(hp.getElem hjl).symm
      rw[e2] at ht
      exact .inl (hc j (by omega) hjl t ht))
   refine⟨hp.trans h1,h2,h3,h4,fun x hx=>?_⟩
   obtain⟨s,hs2,hx2⟩:=h5 x hx
   rcases (rJ _ _ _).1 hs2 with a | a
   ·exact⟨s,a,hx2⟩
   ·refine⟨ws[i],List.getElem_mem h,?_⟩
    have hl1:BI on ws[i] s:=.on (.here _) a
    clear hs2 a hx h1 h2 h3 h4 h5
    induction hx2 with
    | here=>exact hl1
    | on _ h2 ih=>exact .on ih h2
  ·rw[List.getElem?_eq_none (by omega)]
   dsimp only
   refine⟨List.prefix_refl _,hnd,hlt,fun x hx t ht=>?_,fun x hx=>⟨x,hx,.here x⟩⟩
   obtain⟨j,hj,rfl⟩:=List.mem_iff_getElem.1 hx
   exact hc j (by omega) hj t ht
theorem Xt(on:Nat→List Nat)(n:Nat)(hon:∀ x,x<n→∀ t∈on x,t<n)(ws:List Nat)(hnd:ws.Nodup)(hlt:∀ x∈ws,x<n)(x:Nat):x∈kZ on n 0 ws↔∃ s∈ws,BI on s x:=by
 obtain⟨h1,_,_,h4,h5⟩:=BJ on n hon n 0 ws hnd hlt (by omega) (fun j hj=>absurd hj (Nat.not_lt_zero _))
 refine⟨h5 x,?_⟩
 rintro⟨s,hs,hx⟩
 induction hx with
 | here=>exact h1.subset hs
 | on _ hu ih=>exact h4 _ ih _ hu
structure kK(D:aF):Prop where
 pos:1≤D.label.length
 le:D.label.length≤65536
 nx:D.next.length=D.label.length
 names:D.names.length≤64
 wd:0≤D.width∧D.width≤256
 of:∀ b,b<256→((D.of b:Nat):Int)<D.width
 onto:∀ k:Nat,(k:Int)<D.width→∃ b,b<256∧D.of b=k
 Gx:∀ r∈D.next,((r.length:Nat):Int)=D.width
 row:∀ r∈D.next,∀ t∈r,0≤t∧t<(D.label.length:Nat)
 lab:∀ k∈D.label,0≤k∧k≤(D.names.length:Nat)
theorem OW{D:aF}(h:o9 D=true):kK D:=by
 obtain⟨h1,h2⟩:=ZR h
 have E:=qY (eu D.of)
 unfold o9 at h
 simp only[Bool.and_eq_true,decide_eq_true_eq] at h
 obtain⟨⟨a1,a2,a3⟩,_,a5,a6⟩:=h
 have hrow:∀ i,i<D.next.length→vw D i=true:=fun i hi=>by
  unfold kY at a6
  exact List.all_eq_true.1 a6 i (List.mem_range.2 hi)
 have hmem:∀ r∈D.next,((r.length:Nat):Int)=D.width∧∀ t∈r,0≤t∧t<(D.label.length:Nat):=fun r hr=>by
  obtain⟨i,hi,rfl⟩:=List.mem_iff_getElem.1 hr
  have:=hrow i hi
  unfold vw at this
  simp only[Bool.and_eq_true,decide_eq_true_eq,List.all_eq_true,List.getD_eq_getElem?_getD,List.getElem?_eq_getElem hi,Option.getD_some] at this
  exact⟨this.1.1,fun t ht=>this.2 t ht⟩
 refine⟨a1,a2,a3,?_,⟨by omega,by have:=JL (bH (eu D.of));omega⟩,fun b hb=>?_,fun k hk=>?_,fun r hr=>(hmem r hr).1,fun r hr=>(hmem r hr).2,fun k hk=>?_⟩
 ·unfold nT at a5
  simp only[Bool.and_eq_true,decide_eq_true_eq] at a5
  exact a5.1
 ·rw[←h1 b hb,←h2]
  have:=JK E.refl hb
  omega
 ·have hk2:k<(aK (bH (eu D.of)) 256).length:=by rw[←oL];omega
  have hc:=lN (bH (eu D.of)) 256 _ (List.getElem_mem hk2)
  exact⟨_,hc,by rw[←h1 _ hc];exact ada E k hk2⟩
 ·obtain⟨i,hi,rfl⟩:=List.mem_iff_getElem.1 hk
  have:=hrow i (by omega)
  unfold vw at this
  simp only[Bool.and_eq_true,decide_eq_true_eq,List.getD_eq_getElem?_getD,List.getElem?_eq_getElem hi,Option.getD_some] at this
  exact this.1.2
theorem kK.goI{D:aF}(h:kK D){s:Nat}(hs:s<D.label.length)(b:UInt8):∃ (h1:s<D.next.length) (h2:D.of b.toNat<(D.next[s]).length),D.next[s][D.of b.toNat]=(mV D s b:Int)∧mV D s b<D.label.length:=by
 have h1:s<D.next.length:=by rw[h.nx];exact hs
 have hr:=List.getElem_mem h1
 have h2:D.of b.toNat<(D.next[s]).length:=by
  have a:=h.of b.toNat (by have:=b.toNat_lt;omega)
  have c:=h.Gx _ hr
  omega
 have ht:=h.row _ hr _ (List.getElem_mem h2)
 have e:mV D s b=(D.next[s][D.of b.toNat]).toNat:=by
  unfold mV
  simp only[List.getD_eq_getElem?_getD,List.getElem?_eq_getElem h1,Option.getD_some,List.getElem?_eq_getElem h2]
 exact⟨h1,h2,by rw[e];omega,by rw[e];omega⟩
theorem kK.bK{D:aF}(h:kK D):∀ (w:List UInt8) {s:Nat},s<D.label.length→bK D s w<D.label.length
 | [],_,hs=>hs
 | b::w,_,hs=>h.bK w (h.goI hs b).2.2.2
theorem kK.OX{D:aF}{s:Nat}(hs:s<D.label.length):labS D s=D.label[s]:=by
 unfold labS;rw[List.getD_eq_getElem?_getD,List.getElem?_eq_getElem hs];rfl
def backTo(t:Nat)(r:List Int)(s:Nat):List Nat:=(r.filter (fun u=>u==(t:Int))).map fun _=>s
def lg(t:Nat):List (List Int)→Nat→List Nat
 | [],_=>[]
 | r::l,s=>backTo t r s++lg t l (s+1)
def sQ(D:aF)(t:Nat):List Nat:=lg t D.next 0
def gQ:List Int→Nat→List Nat
 | [],_=>[]
 | k::l,s=>if k=0 then gQ l (s+1) else s::gQ l (s+1)
def lK(D:aF):List Nat:=gQ D.label 0
theorem UH{t s x:Nat}{r:List Int}:x∈backTo t r s↔x=s∧(t:Int)∈r:=by
 unfold backTo
 rw[List.mem_map]
 simp only[List.mem_filter,beq_iff_eq]
 constructor
 ·rintro⟨u,⟨h1,rfl⟩,rfl⟩;exact⟨rfl,h1⟩
 ·rintro⟨rfl,h⟩;exact⟨_,⟨h,rfl⟩,rfl⟩
theorem Lh{t x:Nat}:∀ {l:List (List Int)} {s:Nat},x∈lg t l s↔∃ i,∃ h:i<l.length,x=s+i∧(t:Int)∈l[i]
 | [],s=>by simp[lg]
 | r::l,s=>by
  rw[lg,List.mem_append,UH,Lh]
  constructor
  ·rintro(⟨rfl,h⟩ | ⟨i,h,rfl,h2⟩)
   ·exact⟨0,by simp,rfl,h⟩
   ·exact⟨i+1,by simpa using h,by omega,h2⟩
  ·rintro⟨i,h,rfl,h2⟩
   cases i with
   | zero=>exact .inl ⟨rfl,h2⟩
   | succ i=>exact .inr ⟨i,by simpa using h,by omega,h2⟩
theorem Lj{x:Nat}:∀ {l:List Int} {s:Nat},x∈gQ l s↔∃ i,∃ h:i<l.length,x=s+i∧l[i]≠0
 | [],s=>by simp[gQ]
 | k::l,s=>by
  have hh:(x∈gQ l (s+1))↔∃ i,∃ h:i+1<(k::l).length,x=s+(i+1)∧(k::l)[i+1]≠0:=by
   rw[Lj]
   constructor
   ·rintro⟨i,h,rfl,h2⟩;exact⟨i,by simpa using h,by omega,h2⟩
   ·rintro⟨i,h,rfl,h2⟩;exact⟨i,by simpa using h,by omega,h2⟩
  rw[gQ]
  by_cases hk:k=0
  ·rw[if_pos hk,hh]
   constructor
   ·rintro⟨i,h,e,h2⟩;exact⟨i+1,h,e,h2⟩
   ·rintro⟨i,h,e,h2⟩
    cases i with
    | zero=>exact absurd hk h2
    | succ i=>exact⟨i,h,e,h2⟩
  ·rw[if_neg hk,List.mem_cons,hh]
   constructor
   ·rintro(rfl | ⟨i,h,e,h2⟩)
    ·exact⟨0,by simp,rfl,hk⟩
    ·exact⟨i+1,h,e,h2⟩
   ·rintro⟨i,h,e,h2⟩
    cases i with
    | zero=>exact .inl e
    | succ i=>exact .inr ⟨i,h,e,h2⟩
theorem DR:∀ (l:List Int) (s:Nat),(gQ l s).Pairwise (· < ·)∧∀ x∈gQ l s,s≤x
 | [],s=>⟨.nil,by simp[gQ]⟩
 | k::l,s=>by
  obtain⟨h1,h2⟩:=DR l (s+1)
  rw[gQ]
  split
  ·exact⟨h1,fun x hx=>by have:=h2 x hx;omega⟩
  ·refine⟨List.Pairwise.cons (fun x hx=>by have:=h2 x hx;omega) h1,fun x hx=>?_⟩
   rcases List.mem_cons.1 hx with rfl | hx
   ·exact Nat.le_refl _
   ·have:=h2 x hx;omega
theorem zJ(D:aF):(lK D).Nodup:=(DR D.label 0).1.imp fun h=>Nat.ne_of_lt h
theorem vW{D:aF}{x:Nat}:x∈lK D↔x<D.label.length∧labS D x≠0:=by
 unfold lK
 rw[Lj]
 constructor
 ·rintro⟨i,h,rfl,h2⟩
  rw[Nat.zero_add,kK.OX h];exact⟨h,h2⟩
 ·rintro⟨h,h2⟩
  rw[kK.OX h] at h2
  exact⟨x,h,(Nat.zero_add _).symm,h2⟩
theorem DT{D:aF}(hw:kK D){t x:Nat}:x∈sQ D t↔x<D.label.length∧∃ b:UInt8,mV D x b=t:=by
 unfold sQ
 rw[Lh]
 constructor
 ·rintro⟨i,h,rfl,h2⟩
  rw[Nat.zero_add]
  have hi:i<D.label.length:=by rw[←hw.nx];exact h
  refine⟨hi,?_⟩
  obtain⟨k,hk,e⟩:=List.mem_iff_getElem.1 h2
  obtain⟨b,hb,hob⟩:=hw.onto k (by have:=hw.Gx _ (List.getElem_mem h);omega)
  refine⟨UInt8.ofNat b,?_⟩
  obtain⟨h1,h3,h4,_⟩:=hw.goI hi (UInt8.ofNat b)
  have hbn:(UInt8.ofNat b).toNat=b:=by rw[UInt8.toNat_ofNat'];omega
  have e2:D.next[i][D.of (UInt8.ofNat b).toNat]=D.next[i][k]:=by congr 1;rw[hbn,hob]
  rw[e2,e] at h4
  omega
 ·rintro⟨hx,b,rfl⟩
  obtain⟨h1,h2,h3,_⟩:=hw.goI hx b
  exact⟨x,h1,(Nat.zero_add _).symm,h3▸List.getElem_mem h2⟩
theorem IV{D:aF}(hw:kK D){e x:Nat}(he:e<D.label.length):BI (sQ D) e x↔x<D.label.length∧∃ w,bK D x w=e:=by
 constructor
 ·intro h
  induction h with
  | here=>exact⟨he,[],rfl⟩
  | on _ hu ih =>
   obtain⟨hx,b,rfl⟩:=(DT hw).1 hu
   obtain⟨_,w,hw2⟩:=ih
   exact⟨hx,b::w,hw2⟩
 ·rintro⟨hx,w,hr⟩
  induction w generalizing x with
  | nil=>obtain rfl:x=e:=hr;exact .here _
  | cons b w ih =>
   obtain⟨_,_,_,h4⟩:=hw.goI hx b
   exact .on (ih h4 hr) ((DT hw).2 ⟨hx,b,rfl⟩)
def wB(D:aF):List Nat:=kZ (sQ D) D.label.length 0 (lK D)
theorem Gy{D:aF}(hw:kK D)(x:Nat):∀ t∈sQ D x,t<D.label.length:=fun _ ht=>((DT hw).1 ht).1
theorem ZT{D:aF}(hw:kK D)(x:Nat):x∈wB D↔x<D.label.length∧¬ yT D x:=by
 unfold wB
 rw[Xt (sQ D) _ (fun x _=>Gy hw x) _ (zJ D) (fun x hx=>(vW.1 hx).1)]
 constructor
 ·rintro⟨e,he,hl⟩
  obtain⟨he1,he2⟩:=vW.1 he
  obtain⟨hx,w,hr⟩:=(IV hw he1).1 hl
  exact⟨hx,fun hd=>he2 (hr▸hd w)⟩
 ·rintro⟨hx,hd⟩
  obtain⟨w,hw2⟩:=Classical.not_forall.1 hd
  have hrl:=hw.bK w hx
  exact⟨_,vW.2 ⟨hrl,hw2⟩,(IV hw hrl).2 ⟨hx,w,rfl⟩⟩
theorem BK{D:aF}(hw:kK D):(wB D).Nodup∧∀ x∈wB D,x<D.label.length :=
 have h:=BJ (sQ D) _ (fun x _=>Gy hw x) D.label.length 0 (lK D) (zJ D) (fun x hx=>(vW.1 hx).1) (by omega) (fun j hj=>absurd hj (Nat.not_lt_zero _))
 ⟨h.2.1,h.2.2.1⟩
end
section
open Go.ChangeShapes Go.WideShapes Go.ChangeAt Go.RowKit Go.Deep
structure alb(P:Program)(tD tA tU tI tN tL tM tS:TypeId)(fs:Array Field):Prop where
 rG:P.underlying tD=some (.struct fs)
 aiP:fs.map (fun f=>(f.type,f.offset))=#[(tA,0),(tI,256),(tN,257),(tL,258),(tM,259)]
 arr:P.underlying tA=some (.array 256 tU)
 u8:P.underlying tU=some (.int .u8)
 int:P.underlying tI=some (.int .i64)
 rows:P.underlying tN=some (.slice tL)
 ints:P.underlying tL=some (.slice tI)
 strs:P.underlying tM=some (.slice tS)
 str:P.underlying tS=some .string
 cD:P.cellsOf tD=260
 cA:P.cellsOf tA=256
 cU:P.cellsOf tU=1
 cI:P.cellsOf tI=1
 cN:P.cellsOf tN=1
 cL:P.cellsOf tL=1
 cM:P.cellsOf tM=1
 cS:P.cellsOf tS=1
section
variable {H:Type} {enc:TypeId×Value→H} {P:Program} {w:World} {base:Nat} {spare:Nat→Bool} {held:Bool}
end
end
end Go.Proofs.YtbemonecmmnlcaaGreatDoor
