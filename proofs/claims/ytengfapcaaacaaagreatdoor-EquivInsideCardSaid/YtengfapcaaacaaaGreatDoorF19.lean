/- The texts of E19, in few letters (mini.py). -/
import Derived.Test.YtengfapcaaacaaaGreatDoorF10
import Derived.Test.YtengfapcaaacaaaGreatDoorF18
import Derived.Deep.DeepCutAuto
set_option linter.unusedVariables false
set_option linter.unusedSimpArgs false
set_option maxHeartbeats 1600000
set_option maxRecDepth 20000
namespace Go.Proofs.YtengfapcaaacaaaGreatDoor
section
open Go.RowKit
abbrev bs(l:List UInt8):ByteArray:=⟨l.toArray⟩
theorem aik{a b:List UInt8}(h:bs a=bs b):a=b:=by
 have:=congrArg (fun s:ByteArray=>s.data.toList) h
 simpa using this
def nameAt(l:List (List UInt8))(i:Nat):Bool:=jh (l.getD i [])&&!((l.take i).contains (l.getD i []))
def oJ(l:List (List UInt8))(k:Nat):Bool:=(List.range k).all (nameAt l)
theorem F5(l:List (List UInt8))(k:Nat):oJ l (k+1)=(oJ l k&&nameAt l k):=by
 unfold oJ;rw[List.range_succ,List.all_append];simp
theorem Ew(l:List (List UInt8))(k n:Nat)(hk:k<n)(h:nameAt l k=false):oJ l n=false:=by
 unfold oJ
 rw[List.all_eq_false]
 exact⟨k,by simpa using hk,by simp[h]⟩
def nH(l:List (List UInt8)):Bool:=decide (l.length≤64)&&oJ l l.length
theorem Vl(l:List (List UInt8))(s:List UInt8):Lib.containsS (l.map bs) (bs s)=l.contains s:=by
 rw[Bool.eq_iff_iff,Lib.containsS_iff,List.contains_iff_mem,List.mem_map]
 exact⟨fun⟨x,hx,he⟩=>aik he▸hx,fun h=>⟨s,h,rfl⟩⟩
theorem aa1(a:Option Addr)(cap n:Nat)(l:List (List UInt8))(w:World)(h:au w (.slice a n cap) 1 jl l)(hl:∀ x∈l,x.length≤9223372036854775807) :
  Calls Tryz.prog 68 #[.slice a n cap] w (bF w (.bool (nH l))):=by
 obtain⟨b,o,hlen,hcap,hcap',ha,hcell⟩:=h.bU
 have hnn:n≤9223372036854775807:=by omega
 have e:nH l=(decide (n≤64)&&oJ l n):=by rw[hlen];rfl
 rw[e]
 by_cases h64:64<n
 ·have e1:decide (n≤64)=false:=by simp;omega
  rw[e1]
  have aok:(64:Int)<(n:Int):=by omega
  clear hlen hcell ha h e e1
  go_enter Tryz.func68,Tryz.ntmps68
  go_wp2
  go_ret
  exact⟨rfl,Below.refl _ _⟩
 ·have e1:decide (n≤64)=true:=by simp;omega
  rw[e1,Bool.true_and]
  have aol:decide ((64:Int)<(n:Int))=false:=by simp;omega
  have HC:=ah hcell
  have HL:=ah hlen
  have HA:=ah ha
  have Ey:=ah hl
  clear hlen hcell ha h e e1 hl
  go_enter Tryz.func68,Tryz.ntmps68
  go_wp2
  go_loopw [10] (fun i wr=>∃ k:Nat,k≤n∧i=.int .i64 k∧oJ l k=true∧Below w.heap.size w wr) (fun i _=>n - (intOf i).toNat)
  case atStart=>exact⟨0,Nat.zero_le _,rfl,rfl,Below.refl _ _⟩
  case round =>
   obtain⟨k,hk,rfl,hok,hB⟩:=hrel
   by_cases hlt:k<n
   ·have hk2:k<l.length:=by rw[←HL.out];exact hlt
    obtain rfl:=HA.out k hk2
    have c0:=HC.out k hk2 wr hB
    have hnm:=fun w=>A8 l[k] w (Ey.out _ (List.getElem_mem hk2))
    have hnx:nameAt l k=(jh l[k]&&!((l.take k).contains l[k])):=by
     unfold nameAt;rw[List.getD_eq_getElem?_getD,List.getElem?_eq_getElem hk2];rfl
    have hsucc:=F5 l k
    rw[hok,Bool.true_and] at hsucc
    have hfalse:=Ew l k n hlt
    have hcon:∀ w2,Below w.heap.size w w2→Calls Tryz.prog 113 #[.slice (some ⟨b,o,none⟩) k cap,sv l[k]] w2 (fun e w'=>e=.returned (.bool ((l.take k).contains l[k]))∧w'=w2):=fun w2 h2=>by
     have:=Tryz.slices_Contains_string b o k cap (l.map bs) (bs l[k]) w2 (by rw[List.length_map];omega) (by omega) (fun j hj=>by
      rw[List.length_map] at hj
      have:=HC.out j hj w2 h2
      rw[this,List.getD_eq_getElem?_getD,List.getElem?_map,List.getElem?_eq_getElem hj];rfl)
     rw[←List.map_take,Vl] at this
     exact this
    generalize l[k]=s at *
    have oW:=ah hnm
    have HCO:=ah hcon
    have Ba:=ah hsucc
    have Ez:=ah hfalse
    have hk0:(0:Int)≤(k:Int):=by omega
    have hkm:(k:Int)<(n:Int):=by omega
    have hkc:(k:Int)≤(cap:Int):=by omega
    clear hnm hcon hsucc hfalse hok
    generalize (l.take k).contains s=q at *
    cases hn:jh s with
    | true =>
     rw[hn] at oW hnx
     cases q with
     | true =>
      have hx:nameAt l k=false:=hnx
      have HX:=ah hx
      clear hx hnx hn
      go_wp2_with (first | (go_at_call 42;go_must (refine(oW.out _).mono ?_;rintro e w1 ⟨rfl,hB1⟩;have hB2:=hB.trans (hB1.mono hB.size))) | (go_at_call 113;go_must (refine(HCO.out _ hB2).mono ?_;rintro e w3 ⟨rfl,rfl⟩)))
      go_ret
      exact⟨by rw[Ez.out HX.out];rfl,hB2⟩
     | false =>
      have hx:nameAt l k=true:=hnx
      have HX:=ah hx
      clear hx hnx hn
      go_wp2_with (first | (go_at_call 42;go_must (refine(oW.out _).mono ?_;rintro e w1 ⟨rfl,hB1⟩;have hB2:=hB.trans (hB1.mono hB.size))) | (go_at_call 113;go_must (refine(HCO.out _ hB2).mono ?_;rintro e w3 ⟨rfl,rfl⟩)))
      go_roundw
      case rel=>exact⟨k+1,hlt,by go_num,by rw[Ba.out,HX.out],hB2⟩
      case measure=>simp[intOf];omega
    | false =>
     rw[hn] at oW hnx
     have hx:nameAt l k=false:=hnx
     have HX:=ah hx
     clear hx hnx hn
     go_wp2_with (go_at_call 42;go_must (refine(oW.out _).mono ?_;rintro e w1 ⟨rfl,hB1⟩;have hB2:=hB.trans (hB1.mono hB.size)))
     go_ret
     exact⟨by rw[Ez.out HX.out];rfl,hB2⟩
   ·obtain rfl:k=n:=by omega
    have qC:=ah hok
    clear hok
    go_wp2
    go_ret
    exact⟨by rw[qC.out];rfl,hB⟩
end
section
open Go.RowKit
structure aQ where
 of:Nat→Nat
 width:Int
 next:List (List Int)
 label:List Int
 names:List (List UInt8)
structure aA where
 of:Nat→Nat
 width:Int
 na:Option Addr
 nn:Nat
 nc:Nat
 la:Option Addr
 ln:Nat
 lc:Nat
 ma:Option Addr
 mn:Nat
 mc:Nat
def aA.cells(V:aA):Array Value:=aG V.of++#[.int .i64 V.width,.slice V.na V.nn V.nc,.slice V.la V.ln V.lc,.slice V.ma V.mn V.mc]
theorem aA.size(V:aA):V.cells.size=260:=by unfold aA.cells;rw[Array.size_append,aU];rfl
theorem aA.sizes(V U:aA):V.cells.size=U.cells.size:=by rw[aA.size,aA.size]
theorem aA.qV(V:aA)(i:Nat)(h:i<256):V.cells[i]?=some (.int .u8 (V.of i:Nat)):=by
 unfold aA.cells;rw[Array.getElem?_append_left (by rw[aU];exact h),dG _ _ h]
theorem aA.yC(V:aA):V.cells[256]?=some (.int .i64 V.width):=by
 unfold aA.cells;rw[Array.getElem?_append_right (by rw[aU];exact Nat.le_refl _),aU];rfl
theorem aA.pG(V:aA):V.cells[257]?=some (.slice V.na V.nn V.nc):=by
 unfold aA.cells;rw[Array.getElem?_append_right (by rw[aU];decide),aU];rfl
theorem aA.iZ(V:aA):V.cells[258]?=some (.slice V.la V.ln V.lc):=by
 unfold aA.cells;rw[Array.getElem?_append_right (by rw[aU];decide),aU];rfl
theorem aA.yD(V:aA):V.cells[259]?=some (.slice V.ma V.mn V.mc):=by
 unfold aA.cells;rw[Array.getElem?_append_right (by rw[aU];decide),aU];rfl
theorem aA.all(V:aA):V.cells.all (·.oneCell')=true:=by
 unfold aA.cells;rw[Array.all_append,eu,Bool.true_and]
 exact Array.all_eq_true_iff_forall_mem.2 (by intro v hv;simp at hv;rcases hv with rfl | rfl | rfl | rfl <;> rfl)
theorem Box.ig{w:World}{b E:Nat}{V:aA}(h:Box w b V.cells E):w.cell? ⟨b,256,none⟩=some (.int .i64 V.width)∧w.cell? ⟨b,257,none⟩=some (.slice V.na V.nn V.nc)∧w.cell? ⟨b,258,none⟩=some (.slice V.la V.ln V.lc)∧w.cell? ⟨b,259,none⟩=some (.slice V.ma V.mn V.mc) :=
 ⟨(h.cell _).trans V.yC,(h.cell _).trans V.pG,(h.cell _).trans V.iZ,(h.cell _).trans V.yD⟩
theorem Box.rU{w:World}{b E:Nat}{V:aA}(h:Box w b V.cells E):w.rangeAt b 0 (aG V.of).toList:=fun j v hv=>by
 have hj:j<256:=by have:=(List.getElem?_eq_some_iff.1 hv).1;rwa[Array.length_toList,aU] at this
 rw[h.cell,Nat.zero_add,V.qV j hj]
 rw[Array.getElem?_toList,dG _ _ hj] at hv
 exact hv
attribute [irreducible] aA.cells
def aZ(w:World)(V:aA)(D:aQ):Prop:=V.of=D.of∧V.width=D.width∧au w (.slice V.la V.ln V.lc) 1 encI D.label∧au w (.slice V.ma V.mn V.mc) 1 jl D.names ∧
 ∃ rows:List Value,au w (.slice V.na V.nn V.nc) 1 adn rows∧rows.length=D.next.length∧∀ i (h1:i<rows.length) (h2:i<D.next.length),∃ a c,rows[i]=.slice a (D.next[i]).length c∧au w (.slice a (D.next[i]).length c) 1 encI D.next[i]
theorem aZ.kept{w w':World}{V:aA}{D:aQ}(h:aZ w V D)(hb:Below w.heap.size w w'):aZ w' V D:=by
 obtain⟨h1,h2,h3,h4,rows,h5,h6,h7⟩:=h
 exact⟨h1,h2,h3.kept hb,h4.kept hb,rows,h5.kept hb,h6,fun i a b=>by obtain⟨x,c,e,k⟩:=h7 i a b;exact⟨x,c,e,k.kept hb⟩⟩
theorem aZ.lens{w:World}{V:aA}{D:aQ}(h:aZ w V D):V.ln=D.label.length∧V.mn=D.names.length∧V.nn=D.next.length:=by
 obtain⟨_,_,h3,h4,rows,h5,h6,_⟩:=h
 obtain⟨_,_,e3,_⟩:=h3.open
 obtain⟨_,_,e4,_⟩:=h4.open
 obtain⟨_,_,e5,_⟩:=h5.open
 exact⟨e3,e4,e5.trans h6⟩
def vK(D:aQ)(i:Nat):Bool:=(decide ((((D.next.getD i []).length:Nat):Int)=D.width)&&(decide (0≤D.label.getD i 0)&&decide (D.label.getD i 0≤(D.names.length:Nat))))&&(D.next.getD i []).all fun t=>decide (0≤t)&&decide (t<(D.label.length:Nat))
def kW(D:aQ)(k:Nat):Bool:=(List.range k).all (vK D)
theorem Ik(D:aQ)(k:Nat):kW D (k+1)=(kW D k&&vK D k):=by
 unfold kW;rw[List.range_succ,List.all_append];simp
theorem F6(D:aQ)(k n:Nat)(hk:k<n)(h:vK D k=false):kW D n=false:=by
 unfold kW
 rw[List.all_eq_false]
 exact⟨k,by simpa using hk,by simp[h]⟩
def dM(D:aQ):Bool:=(decide (1≤D.label.length)&&(decide (D.label.length≤65536)&&decide (D.next.length=D.label.length)))&&((jR (aT (aH (aY D.of))) D.of&&((iq (aH (aY D.of)):Nat)==D.width))&&(nH D.names&&kW D D.next.length))
theorem adP:(Tryz.prog.info? 27).map (·.size)=some 260:=by kernel_rfl
theorem ay(V:aA):(Tryz.prog.info? 27).map (·.size)=some V.cells.size:=by rw[aA.size];exact adP
theorem SC{of:Nat→Nat}{wd:Int}{nx:List (List Int)}{lb:List Int}{nm:List (List UInt8)}{n m:Nat}(hn:n=lb.length)(hm:m=nm.length){k:Nat}(h1:k<nx.length)(h2:k<lb.length) :
  vK ⟨of,wd,nx,lb,nm⟩ k=((decide (((nx[k].length:Nat):Int)=wd)&&(decide (0≤lb[k])&&decide (lb[k]≤(m:Nat))))&&nx[k].all fun t=>decide (0≤t)&&decide (t<(n:Nat))):=by
 subst hn;subst hm
 unfold vK
 simp only[List.getD_eq_getElem?_getD,List.getElem?_eq_getElem h1,List.getElem?_eq_getElem h2,Option.getD_some]
def rowAt(r:List Int)(n k:Nat):Bool:=(List.range k).all fun i=>decide (0≤r.getD i 0)&&decide (r.getD i 0<(n:Nat))
theorem Ld(r:List Int)(n k:Nat)(h:k<r.length):rowAt r n (k+1)=(rowAt r n k&&(decide (0≤r[k])&&decide (r[k]<(n:Nat)))):=by
 unfold rowAt;rw[List.range_succ,List.all_append];simp[List.getD_eq_getElem?_getD,List.getElem?_eq_getElem h]
theorem rowAt_all(r:List Int)(n:Nat):rowAt r n r.length=r.all fun t=>decide (0≤t)&&decide (t<(n:Nat)):=by
 unfold rowAt
 rw[Bool.eq_iff_iff,List.all_eq_true,List.all_eq_true]
 constructor
 ·intro h t ht
  obtain⟨i,hi,rfl⟩:=List.mem_iff_getElem.1 ht
  have:=h i (by simpa using hi)
  rwa[List.getD_eq_getElem?_getD,List.getElem?_eq_getElem hi] at this
 ·intro h i hi
  have hi2:i<r.length:=by simpa using hi
  rw[List.getD_eq_getElem?_getD,List.getElem?_eq_getElem hi2]
  exact h _ (List.getElem_mem hi2)
theorem all_false{r:List Int}{p:Int→Bool}{k:Nat}(h:k<r.length)(hp:p r[k]=false):r.all p=false:=by
 rw[List.all_eq_false];exact⟨r[k],List.getElem_mem h,by simp[hp]⟩
theorem adQ(V:aA)(D:aQ)(w:World)(h:aZ w V D)(hnl:D.next.length=D.label.length):Calls Tryz.prog 69 #[.agg V.cells] w (bF w (.bool (kW D D.next.length))):=by
 obtain⟨of,wd,na,nn,nc,la,n,lc,ma,mn,mc⟩:=V
 obtain⟨of',wd',nx,lb,nm⟩:=D
 have hst:=Ik ⟨of',wd',nx,lb,nm⟩
 have hfa:=F6 ⟨of',wd',nx,lb,nm⟩
 obtain⟨h0,h1,h3,h4,rows,h5,h6,h7⟩:=h
 dsimp only at *
 subst h0
 subst h1
 obtain⟨b5,o5,e5,c5,SE,a5,k5⟩:=h5.bU
 obtain⟨b3,o3,e3,c3,c3',a3,k3⟩:=h3.bU
 obtain⟨_,_,e4,c4,Il,_⟩:=h4.bU
 obtain rfl:nn=n:=by omega
 have hnb:nn≤9223372036854775807:=by omega
 have hmb:mn≤9223372036854775807:=by omega
 rw[show nx.length=nn by omega]
 have hat:=fun k=>@SC of wd nx lb nm nn mn e3 e4 k
 have HR0:Hid (kW ⟨of,wd,nx,lb,nm⟩ 0=true):=ah rfl
 generalize kW ⟨of,wd,nx,lb,nm⟩=rt at *
 generalize vK ⟨of,wd,nx,lb,nm⟩=ro at *
 have HN:Hid (nx.length=nn∧lb.length=nn∧rows.length=nn):=ah ⟨by omega,by omega,by omega⟩
 have H7:=ah h7
 have HST:=ah hst
 have Ez:=ah hfa
 have HAT:=ah hat
 have HK5:=ah k5
 have HK3:=ah k3
 have HA5:=ah a5
 have HA3:=ah a3
 clear hnl h6 h7 hst hfa hat e5 e3 e4 k5 k3 a5 a3 h3 h5 h4 c5 SE c3 c3' c4 Il
 have hbx:=Box.new w (aA.cells ⟨of,wd,na,nn,nc,la,nn,lc,ma,mn,mc⟩) 27
 have hB0:=aj w (.cells (aA.cells ⟨of,wd,na,nn,nc,la,nn,lc,ma,mn,mc⟩) 27)
 obtain⟨x0,x1,x2,x3⟩:=hbx.ig
 dsimp only at x0 x1 x2 x3
 go_enter Tryz.func69,Tryz.ntmps69
 go_wp2
 have SG:=HR0.out
 go_loopw [14] (fun i wr=>∃ k:Nat,k≤nn∧i=.int .i64 k∧rt k=true∧Box wr w.heap.size (aA.cells ⟨of,wd,na,nn,nc,la,nn,lc,ma,mn,mc⟩) 27∧Below w.heap.size w wr) (fun i _=>nn - (intOf i).toNat)
 case atStart=>exact⟨0,Nat.zero_le _,rfl,SG,hbx,hB0⟩
 case round =>
  clear x0 x1 x2 x3 hbx hB0 SG
  obtain⟨k,hk,rfl,hok,hbx,hB⟩:=hrel
  obtain⟨x0,x1,x2,x3⟩:=hbx.ig
  dsimp only at x0 x1 x2 x3
  by_cases hlt:k<nn
  ·have hk1:k<nx.length:=by rw[HN.out.1];exact hlt
   have hk2:k<lb.length:=by rw[HN.out.2.1];exact hlt
   have hk3:k<rows.length:=by rw[HN.out.2.2];exact hlt
   obtain rfl:=HA5.out k hk3
   obtain rfl:=HA3.out k hk2
   have c5:=HK5.out k hk3 wr hB
   have c3:=HK3.out k hk2 wr hB
   have hro:=HAT.out k hk1 hk2
   obtain⟨ra,rc,hr,hrs⟩:=H7.out k hk3 hk1
   rw[hr] at c5
   have hsucc:=HST.out k
   rw[hok,Bool.true_and] at hsucc
   have hfalse:=Ez.out k nn hlt
   generalize nx[k]=row at *
   generalize lb[k]=lab at *
   have EC:=ah hro
   have Ba:=ah hsucc
   have wH:=ah hfalse
   have hk0:(0:Int)≤(k:Int):=by omega
   have hkm:(k:Int)<(nn:Int):=by omega
   clear hro hr hsucc hfalse hok
   have hrl:row.length≤9223372036854775807:=by obtain⟨_,_,_,h1,h2,_⟩:=hrs.bU;omega
   obtain⟨b6,o6,_,_,_,a6,k6⟩:=hrs.bU
   have hra:=fun q=>Ld row nn q
   have hrz:=rowAt_all row nn
   have SH:=fun q h hp=>all_false (r:=row) (p:=fun t=>decide (0≤t)&&decide (t<(nn:Nat))) (k:=q) h hp
   obtain⟨r,hrr⟩:∃ r,row.length=r:=⟨_,rfl⟩
   rw[hrr] at hrl
   have HRR:=ah hrr
   have kC:=ah hra
   have HRZ:=ah hrz
   have HRF:=ah SH
   have HA6:=ah a6
   have HK6:=ah k6
   rw[hrr] at c5
   have aip:ro k=((decide (((r:Nat):Int)=wd)&&(decide (0≤lab)&&decide (lab≤(mn:Nat))))&&row.all fun t=>decide (0≤t)&&decide (t<(nn:Nat))):=by rw[EC.out,HRR.out]
   have wV:=ah aip
   have HF:Hid (∀ v,Later wr.drew v→Box v w.heap.size (aA.cells ⟨of,wd,some ⟨b5,o5,none⟩,nn,nc,some ⟨b3,o3,none⟩,nn,lc,ma,mn,mc⟩) 27∧v.cell? ⟨b5,o5+k,none⟩=some (.slice ra r rc)∧v.cell? ⟨b3,o3+k,none⟩=some (.int .i64 lab)∧Below w.heap.size w v):=ah fun v hl =>
    ⟨hbx.drew.kept hl,(Below.cell hl (World.block_lt_of_cell? wr _ c5)).trans c5,(Below.cell hl (World.block_lt_of_cell? wr _ c3)).trans c3,hB.drew.trans (Below.mono hl hB.size)⟩
   clear aip hrr hra hrz SH a6 k6 hrs EC
   clear hbx hB x0 x1 x2 x3
   have SE:=(HF.out wr.drew (Below.refl _ _)).2.1
   have c3':=(HF.out wr.drew (Below.refl _ _)).2.2.1
   by_cases h1:(r:Int)=wd
   ·have e1:((r:Int) != wd)=false:=by simp[h1]
    by_cases h2:lab<0
    ·have e2:decide (lab<0)=true:=by simp[h2]
     go_wp2_with fail
     refine aO (R:=Later) 24 (by kernel_rfl) ?_
     refine pl [0,1,2,3,4,5,6,7,8,9,10,11,12,13] ?_
     repeat
      refine dR ?_ rfl (fun w1 hl=>?_) ?_
      rotate_left
      ·obtain⟨hbx,c5,c3,_⟩:=HF.out w1 hl;obtain⟨x0,x1,x2,x3⟩:=hbx.ig;dsimp only at x0 x1 x2 x3;go_simp;try with_reducible rfl
      simp only[eA,eB,eC,Act.put,eD,eE,eF]
     refine bV ?_
     refine dP 14 rfl ?_
     simp only[eA,eB,eC,Act.put,eD,eE,eF]
     refine dP 15 rfl ?_
     simp only[eA,eB,eC,Act.put,eD,eE,eF]
     refine dP 16 rfl ?_
     simp only[eA,eB,eC,Act.put,eD,eE,eF]
     refine dP 17 rfl ?_
     simp only[eA,eB,eC,Act.put,eD,eE,eF]
     refine dP 18 rfl ?_
     simp only[eA,eB,eC,Act.put,eD,eE,eF]
     refine dP 19 rfl ?_
     simp only[eA,eB,eC,Act.put,eD,eE,eF]
     refine dP 20 rfl ?_
     simp only[eA,eB,eC,Act.put,eD,eE,eF]
     refine dP 21 rfl ?_
     simp only[eA,eB,eC,Act.put,eD,eE,eF]
     refine dP 22 rfl ?_
     simp only[eA,eB,eC,Act.put,eD,eE,eF]
     refine jF 23 ?_ rfl (fun w1 hl=>?_) ?_
     rotate_left
     ·obtain⟨hbx,c5,c3,_⟩:=HF.out w1 hl;obtain⟨x0,x1,x2,x3⟩:=hbx.ig;dsimp only at x0 x1 x2 x3;go_simp;try with_reducible rfl
     simp only[eA,eB,eC,Act.put,eD,eE,eF]
     refine aV (by kernel_rfl) (fun w1 hl=>?_) _
     have dw:=(HF.out _ hl).2.2.2
     go_wp2
     go_ret
     exact⟨by rw[wH.out (by rw[wV.out];simp;omega)];rfl,dw⟩
    ·have e2:decide (lab<0)=false:=by simp;omega
     by_cases h3:(mn:Int)<lab
     ·have e3:decide ((mn:Int)<lab)=true:=by simp[h3]
      go_wp2_with fail
      refine aO (R:=Later) 24 (by kernel_rfl) ?_
      refine pl [0,1,2,3,4,5,6,7,8,9,10,11,12,13,14,15,16,17,18,19,20,21,22,23] ?_
      repeat
       refine dR ?_ rfl (fun w1 hl=>?_) ?_
       rotate_left
       ·obtain⟨hbx,c5,c3,_⟩:=HF.out w1 hl;obtain⟨x0,x1,x2,x3⟩:=hbx.ig;dsimp only at x0 x1 x2 x3;go_simp;try with_reducible rfl
       simp only[eA,eB,eC,Act.put,eD,eE,eF]
      refine bV ?_
      refine aV (by kernel_rfl) (fun w1 hl=>?_) _
      have dw:=(HF.out _ hl).2.2.2
      go_wp2
      go_ret
      exact⟨by rw[wH.out (by rw[wV.out];simp;omega)];rfl,dw⟩
     ·have e3:decide ((mn:Int)<lab)=false:=by simp;omega
      go_wp2_with fail
      refine aO (R:=Later) 24 (by kernel_rfl) ?_
      refine pl [0,1,2,3,4,5,6,7,8,9,10,11,12,13,14,15,16,17,18,19,20,21,22,23] ?_
      repeat
       refine dR ?_ rfl (fun w1 hl=>?_) ?_
       rotate_left
       ·obtain⟨hbx,c5,c3,_⟩:=HF.out w1 hl;obtain⟨x0,x1,x2,x3⟩:=hbx.ig;dsimp only at x0 x1 x2 x3;go_simp;try with_reducible rfl
       simp only[eA,eB,eC,Act.put,eD,eE,eF]
      refine bV ?_
      refine aV (by kernel_rfl) (fun w1 hl=>?_) _
      have hF9:=HF.out _ hl
      clear hl
      go_wp2
      have hrow0:rowAt row nn 0=true:=rfl
      have ED:=ah hF9
      obtain⟨Jt,_,_,dw⟩:=hF9
      go_loopw [45] (fun i wr=>∃ q:Nat,q≤r∧i=.int .i64 q∧rowAt row nn q=true∧Box wr w.heap.size (aA.cells ⟨of,wd,some ⟨b5,o5,none⟩,nn,nc,some ⟨b3,o3,none⟩,nn,lc,ma,mn,mc⟩) 27∧Below w.heap.size w wr) (fun i _=>r - (intOf i).toNat)
      case atStart=>exact⟨0,Nat.zero_le _,rfl,hrow0,Jt,dw⟩
      case round =>
       clear hrow0 Jt dw
       obtain⟨q,hq,rfl,hrq,hbx,hB⟩:=hrel
       by_cases hlt3:q<r
       ·have hq2:q<row.length:=by rw[HRR.out];exact hlt3
        obtain rfl:=HA6.out q hq2
        have c6:=HK6.out q hq2 wr hB
        have hra:=kC.out q hq2
        have hrf:=HRF.out q hq2
        rw[hrq,Bool.true_and] at hra
        generalize row[q]=tt at *
        have adR:=ah hra
        have SI:=ah hrf
        have hq0:(0:Int)≤(q:Int):=by omega
        have hqm:(q:Int)<(r:Int):=by omega
        clear hra hrf hrq
        by_cases t1:tt<0
        ·have e4:decide (tt<0)=true:=by simp[t1]
         go_wp2
         go_ret
         exact⟨by rw[wH.out (by rw[wV.out,SI.out (by simp;omega),Bool.and_false])];rfl,hB⟩
        ·have e4:decide (tt<0)=false:=by simp;omega
         by_cases t2:(nn:Int)≤tt
         ·have e5:decide ((nn:Int)≤tt)=true:=by simp[t2]
          go_wp2
          go_ret
          exact⟨by rw[wH.out (by rw[wV.out,SI.out (by simp;omega),Bool.and_false])];rfl,hB⟩
         ·have e5:decide ((nn:Int)≤tt)=false:=by simp;omega
          go_wp2
          go_roundw
          case rel=>exact⟨q+1,hlt3,by go_num,by rw[adR.out];simp;omega,hbx,hB⟩
          case measure=>simp[intOf];omega
       ·obtain rfl:q=r:=by omega
        have hall:(row.all fun t=>decide (0≤t)&&decide (t<(nn:Nat)))=true:=by rw[←HRZ.out,HRR.out];exact hrq
        have SK:ro k=true:=by rw[wV.out,hall];simp;omega
        have HRK:=ah SK
        clear hall SK hrq
        go_wp2
        go_roundw
        case rel=>exact⟨k+1,hlt,by go_num,by rw[Ba.out,HRK.out],hbx,hB⟩
        case measure=>simp[intOf];omega
   ·have e1:((r:Int) != wd)=true:=by simp[h1]
    go_wp2_with fail
    refine aO (R:=Later) 24 (by kernel_rfl) ?_
    refine pl [0,1,2,3,4,5] ?_
    repeat
     refine dR ?_ rfl (fun w1 hl=>?_) ?_
     rotate_left
     ·obtain⟨hbx,c5,c3,_⟩:=HF.out w1 hl;obtain⟨x0,x1,x2,x3⟩:=hbx.ig;dsimp only at x0 x1 x2 x3;go_simp;try with_reducible rfl
     simp only[eA,eB,eC,Act.put,eD,eE,eF]
    refine bV ?_
    refine dP 6 rfl ?_
    simp only[eA,eB,eC,Act.put,eD,eE,eF]
    refine dP 7 rfl ?_
    simp only[eA,eB,eC,Act.put,eD,eE,eF]
    refine dP 8 rfl ?_
    simp only[eA,eB,eC,Act.put,eD,eE,eF]
    refine dP 9 rfl ?_
    simp only[eA,eB,eC,Act.put,eD,eE,eF]
    refine dP 10 rfl ?_
    simp only[eA,eB,eC,Act.put,eD,eE,eF]
    refine dP 11 rfl ?_
    simp only[eA,eB,eC,Act.put,eD,eE,eF]
    refine pl [12,13] ?_
    repeat
     refine dR ?_ rfl (fun w1 hl=>?_) ?_
     rotate_left
     ·obtain⟨hbx,c5,c3,_⟩:=HF.out w1 hl;obtain⟨x0,x1,x2,x3⟩:=hbx.ig;dsimp only at x0 x1 x2 x3;go_simp;try with_reducible rfl
     simp only[eA,eB,eC,Act.put,eD,eE,eF]
    refine bV ?_
    refine dP 14 rfl ?_
    simp only[eA,eB,eC,Act.put,eD,eE,eF]
    refine dP 15 rfl ?_
    simp only[eA,eB,eC,Act.put,eD,eE,eF]
    refine dP 16 rfl ?_
    simp only[eA,eB,eC,Act.put,eD,eE,eF]
    refine dP 17 rfl ?_
    simp only[eA,eB,eC,Act.put,eD,eE,eF]
    refine dP 18 rfl ?_
    simp only[eA,eB,eC,Act.put,eD,eE,eF]
    refine dP 19 rfl ?_
    simp only[eA,eB,eC,Act.put,eD,eE,eF]
    refine dP 20 rfl ?_
    simp only[eA,eB,eC,Act.put,eD,eE,eF]
    refine dP 21 rfl ?_
    simp only[eA,eB,eC,Act.put,eD,eE,eF]
    refine dP 22 rfl ?_
    simp only[eA,eB,eC,Act.put,eD,eE,eF]
    refine jF 23 ?_ rfl (fun w1 hl=>?_) ?_
    rotate_left
    ·obtain⟨hbx,c5,c3,_⟩:=HF.out w1 hl;obtain⟨x0,x1,x2,x3⟩:=hbx.ig;dsimp only at x0 x1 x2 x3;go_simp;try with_reducible rfl
    simp only[eA,eB,eC,Act.put,eD,eE,eF]
    refine aV (by kernel_rfl) (fun w1 hl=>?_) _
    have dw:=(HF.out _ hl).2.2.2
    go_wp2
    go_ret
    exact⟨by rw[wH.out (by rw[wV.out];simp[h1])];rfl,dw⟩
  ·obtain rfl:k=nn:=by omega
   have qC:=ah hok
   clear hok
   go_wp2
   go_ret
   exact⟨by rw[qC.out];rfl,hB⟩
theorem G9{P:Program}{ops:Array Oper}{rest:List Oper}{op:Oper}{a:Act}{w:World}{Q:Exit→Act→World→Prop}(hw:Region.wanted op (yielded ops a.tmps)=true)(ty:TypeId)(x:Operand)(ho:op.op=.load ty x)
  (b o:Nat) (hx:a.eval x=.pointer (some ⟨b,o,none⟩)) (cs:List Value) (d:TypeDesc) (hc:w.rangeAt b o cs)
  (hu:P.underlying ty=some d) (hd:d.isRow=true) (hi:(P.info? ty).map (·.size)=some cs.length)
  (h:wpList P ops Q rest (a.put op.dst (.agg cs.toArray)) w):wpList P ops Q (op::rest) a w :=
 BigFrame.wpList_want hw fun _ hK=>wp_load_mid ty x ho b o hx cs d hc hu hd hi (hK _ _ h)
theorem gK{P:Program}{ops:Array Oper}{rest:List Oper}{op:Oper}{a:Act}{w:World}{Q:Exit→Act→World→Prop}(hw:Region.wanted op (yielded ops a.tmps)=true)(ty:TypeId)(x:Operand)(ho:op.op=.load ty x)
  (b:Nat) (hx:a.eval x=.pointer (some ⟨b,0,none⟩)) {V:aA} {E:TypeId} (hb:Box w b V.cells E) {d:TypeDesc}
  (hu:P.underlying ty=some d) (hd:d.isRow=true) (hi:(P.info? ty).map (·.size)=some (aG V.of).size)
  (h:wpList P ops Q rest (a.put op.dst (.agg (aG V.of))) w):wpList P ops Q (op::rest) a w :=
 G9 hw ty x ho b 0 hx (aG V.of).toList d hb.rU hu hd (by rw[Array.length_toList];exact hi) h
end
section
open Go.RowKit
theorem qW(V:aA)(D:aQ)(w:World)(h:aZ w V D)(hl:∀ x∈D.names,x.length≤9223372036854775807):Calls Tryz.prog 37 #[.agg V.cells] w (bF w (.bool (dM D))):=by
 have hbx:=Box.new w V.cells 27
 have hB0:=aj w (.cells V.cells 27)
 obtain⟨x0,x1,x2,x3⟩:=hbx.ig
 obtain⟨e1,e2,e3⟩:=h.lens
 have hk:=fun w1 (hb:Below w.heap.size w w1)=>h.kept hb
 have hpr:=fun w1=>UZ V.of V.width w1
 have hnm:=fun w1 (hb:Below w.heap.size w w1)=>aa1 V.ma V.mc V.mn D.names w1 (by have:=h.2.2.2.1;rw[←e2] at *;exact this.kept hb) hl
 have hrw:=fun w1 (hb:Below w.heap.size w w1) hnl=>adQ V D w1 (h.kept hb) hnl
 have hnb:V.ln≤9223372036854775807:=by obtain⟨_,_,_,c3,c3',_⟩:=h.2.2.1.bU;omega
 have Ju:V.nn≤9223372036854775807:=by obtain⟨_,h5,_,_⟩:=h.2.2.2.2;obtain⟨_,_,_,c3,c3',_⟩:=h5.bU;omega
 have hr:dM D=((decide (1≤V.ln)&&(decide (V.ln≤65536)&&decide (V.nn=V.ln)))&&((jR (aT (aH (aY V.of))) V.of&&((iq (aH (aY V.of)):Nat)==V.width))&&(nH D.names&&kW D D.next.length))):=by
  rw[e1,e3,h.1,h.2.1];rfl
 have F7:V.nn=V.ln→D.next.length=D.label.length:=fun e=>by omega
 rw[hr]
 have aom:=ah F7
 have Io:=ah hpr
 have oW:=ah hnm
 clear hk hpr hnm hr F7 e1 e2 e3
 generalize hp:(jR (aT (aH (aY V.of))) V.of&&((iq (aH (aY V.of)):Nat)==V.width))=p at *
 generalize nH D.names=nm at *
 generalize kW D D.next.length=rw at *
 clear hp h hl
 by_cases b1:1≤V.ln
 ·have e1:decide (1≤(V.ln:Int))=true:=by simp;omega
  by_cases b2:V.ln≤65536
  ·have e2:decide ((V.ln:Int)≤65536)=true:=by simp;omega
   by_cases b3:V.nn=V.ln
   ·have HRW:=ah (fun w1 hb=>hrw w1 hb (aom.out b3))
    have q:(decide (1≤V.ln)&&(decide (V.ln≤65536)&&decide (V.nn=V.ln)))=true:=by simp[b1,b2,b3]
    rw[q,Bool.true_and]
    have e3:((V.nn:Int)==(V.ln:Int))=true:=by simp[b3]
    have e3':(V.nn==V.ln)=true:=by simp[b3]
    clear b1 b2 b3 q hrw
    cases p with
    | false =>
     go_enter Tryz.func37,Tryz.ntmps37
     go_wp2_with (first | (refine gK (by rfl) 22 _ rfl w.heap.size rfl hbx Tryz.underlying22 rfl (aK _) ?_) | (go_at_call 67;go_must (refine(Io.out _).mono ?_;rintro e w1 ⟨rfl,hB1⟩;have gq:=hbx.kept hB1;have hB1:=hB0.trans (hB1.mono (by simp));obtain⟨y0,y1,y2,y3⟩:=gq.ig)) | (go_at_call 68;go_must (refine(oW.out _ hB1).mono ?_;rintro e w2 ⟨rfl,hB2⟩;have hbx2:=gq.kept hB2;have hB2:=hB1.trans (hB2.mono hB1.size))) | (refine ak (by rfl) 27 _ rfl w.heap.size rfl _ _ _ _ hbx2 Tryz.underlying27 rfl (ay _) ?_) | (go_at_call 69;go_must (refine(HRW.out _ hB2).mono ?_;rintro e w3 ⟨rfl,hB3⟩)))
     go_ret
     exact⟨rfl,hB1⟩
    | true =>
     cases nm with
     | false =>
      go_enter Tryz.func37,Tryz.ntmps37
      go_wp2_with (first | (refine gK (by rfl) 22 _ rfl w.heap.size rfl hbx Tryz.underlying22 rfl (aK _) ?_) | (go_at_call 67;go_must (refine(Io.out _).mono ?_;rintro e w1 ⟨rfl,hB1⟩;have gq:=hbx.kept hB1;have hB1:=hB0.trans (hB1.mono (by simp));obtain⟨y0,y1,y2,y3⟩:=gq.ig)) | (go_at_call 68;go_must (refine(oW.out _ hB1).mono ?_;rintro e w2 ⟨rfl,hB2⟩;have hbx2:=gq.kept hB2;have hB2:=hB1.trans (hB2.mono hB1.size))) | (refine ak (by rfl) 27 _ rfl w.heap.size rfl _ _ _ _ hbx2 Tryz.underlying27 rfl (ay _) ?_) | (go_at_call 69;go_must (refine(HRW.out _ hB2).mono ?_;rintro e w3 ⟨rfl,hB3⟩)))
      go_ret
      exact⟨rfl,hB2⟩
     | true =>
      go_enter Tryz.func37,Tryz.ntmps37
      go_wp2_with (first | (refine gK (by rfl) 22 _ rfl w.heap.size rfl hbx Tryz.underlying22 rfl (aK _) ?_) | (go_at_call 67;go_must (refine(Io.out _).mono ?_;rintro e w1 ⟨rfl,hB1⟩;have gq:=hbx.kept hB1;have hB1:=hB0.trans (hB1.mono (by simp));obtain⟨y0,y1,y2,y3⟩:=gq.ig)) | (go_at_call 68;go_must (refine(oW.out _ hB1).mono ?_;rintro e w2 ⟨rfl,hB2⟩;have hbx2:=gq.kept hB2;have hB2:=hB1.trans (hB2.mono hB1.size))) | (refine ak (by rfl) 27 _ rfl w.heap.size rfl _ _ _ _ hbx2 Tryz.underlying27 rfl (ay _) ?_) | (go_at_call 69;go_must (refine(HRW.out _ hB2).mono ?_;rintro e w3 ⟨rfl,hB3⟩)))
      go_ret
      exact⟨rfl,hB2.trans (hB3.mono hB2.size)⟩
   ·have q:(decide (1≤V.ln)&&(decide (V.ln≤65536)&&decide (V.nn=V.ln)))=false:=by simp[b3]
    rw[q,Bool.false_and]
    have e3:((V.nn:Int)==(V.ln:Int))=false:=by simp;omega
    have e3':(V.nn==V.ln)=false:=by simp[b3]
    clear b1 b2 b3 q hrw
    go_enter Tryz.func37,Tryz.ntmps37
    go_wp2
    go_ret
    exact⟨rfl,hB0⟩
  ·have q:(decide (1≤V.ln)&&(decide (V.ln≤65536)&&decide (V.nn=V.ln)))=false:=by simp[b2]
   rw[q,Bool.false_and]
   have e2:decide ((V.ln:Int)≤65536)=false:=by simp;omega
   clear b1 b2 q hrw
   go_enter Tryz.func37,Tryz.ntmps37
   go_wp2
   go_ret
   exact⟨rfl,hB0⟩
 ·have q:(decide (1≤V.ln)&&(decide (V.ln≤65536)&&decide (V.nn=V.ln)))=false:=by simp[b1]
  rw[q,Bool.false_and]
  have e1:decide (1≤(V.ln:Int))=false:=by simp;omega
  clear b1 q hrw
  go_enter Tryz.func37,Tryz.ntmps37
  go_wp2
  go_ret
  exact⟨rfl,hB0⟩
end
section
open Go.RowKit
def EF(D:aQ)(s:Nat)(b:UInt8):Nat:=((D.next.getD s []).getD (D.of b.toNat) 0).toNat
def fQ(D:aQ)(s:Nat)(w:List UInt8):Nat:=w.foldl (EF D) s
def labS(D:aQ)(s:Nat):Int:=D.label.getD s 0
def YB(D:aQ)(s:Nat):Prop:=∀ w:List UInt8,labS D (fQ D s w)=0
theorem YB.go{D:aQ}{s:Nat}(h:YB D s)(b:UInt8):YB D (EF D s b):=fun w=>h (b::w)
end
section
open Go.RowKit
theorem adS{D:aQ}(h:dM D=true):(∀ b,b<256→aT (aH (aY D.of)) b=D.of b)∧((iq (aH (aY D.of)):Nat):Int)=D.width:=by
 unfold dM at h
 simp only[Bool.and_eq_true,decide_eq_true_eq,beq_iff_eq] at h
 exact⟨(BK _ _).1 h.2.1.1,h.2.1.2⟩
theorem ag7{R:Nat→Nat→Bool}(E:su R)(k:Nat)(h:k<(aC R 256).length):aT R (aC R 256)[k]=k:=by
 unfold aT
 rw[DL h (E.refl _) fun i hi=>lJ E 256 _ _ (List.getElem_mem h) (nT R 256 i k hi h)]
 rfl
end
section
open Go.RowKit
def afv:List Nat→List Nat→List Nat
 | [],ws=>ws
 | t::ts,ws=>afv ts (if ws.contains t then ws else ws++[t])
def afw(on:Nat→List Nat):Nat→Nat→List Nat→List Nat
 | 0,_,ws=>ws
 | f+1,i,ws=>match ws[i]? with
  | none=>ws
  | some s=>afw on f (i+1) (afv (on s) ws)
inductive YC (on:Nat→List Nat):Nat→Nat→Prop
 | here (s:Nat):YC on s s
 | on {s t u:Nat}:YC on s t→u∈on t→YC on s u
theorem nodup_lt_length(n:Nat)(l:List Nat)(hn:l.Nodup)(hl:∀ x∈l,x<n):l.length≤n:=by
 induction n generalizing l with
 | zero =>
  cases l with
  | nil=>exact Nat.le_refl _
  | cons x l=>exact absurd (hl x (List.mem_cons_self ..)) (Nat.not_lt_zero _)
 | succ n ih =>
  have h1:=ih (l.erase n) (hn.erase n) (fun x hx=>by
   obtain⟨a,b⟩:=(hn.mem_erase_iff).1 hx
   have:=hl x b;omega)
  by_cases hm:n∈l
  ·rw[List.length_erase_of_mem hm] at h1;omega
  ·rw[List.erase_of_not_mem hm] at h1;omega
structure gQ(D:aQ):Prop where
 pos:1≤D.label.length
 le:D.label.length≤65536
 nx:D.next.length=D.label.length
 names:D.names.length≤64
 wd:0≤D.width∧D.width≤256
 of:∀ b,b<256→((D.of b:Nat):Int)<D.width
 onto:∀ k:Nat,(k:Int)<D.width→∃ b,b<256∧D.of b=k
 SL:∀ r∈D.next,((r.length:Nat):Int)=D.width
 row:∀ r∈D.next,∀ t∈r,0≤t∧t<(D.label.length:Nat)
 lab:∀ k∈D.label,0≤k∧k≤(D.names.length:Nat)
theorem nN{D:aQ}(h:dM D=true):gQ D:=by
 obtain⟨h1,h2⟩:=adS h
 have E:=gY (aY D.of)
 unfold dM at h
 simp only[Bool.and_eq_true,decide_eq_true_eq] at h
 obtain⟨⟨a1,a2,a3⟩,_,a5,a6⟩:=h
 have hrow:∀ i,i<D.next.length→vK D i=true:=fun i hi=>by
  unfold kW at a6
  exact List.all_eq_true.1 a6 i (List.mem_range.2 hi)
 have hmem:∀ r∈D.next,((r.length:Nat):Int)=D.width∧∀ t∈r,0≤t∧t<(D.label.length:Nat):=fun r hr=>by
  obtain⟨i,hi,rfl⟩:=List.mem_iff_getElem.1 hr
  have:=hrow i hi
  unfold vK at this
  simp only[Bool.and_eq_true,decide_eq_true_eq,List.all_eq_true,List.getD_eq_getElem?_getD,List.getElem?_eq_getElem hi,Option.getD_some] at this
  exact⟨this.1.1,fun t ht=>this.2 t ht⟩
 refine⟨a1,a2,a3,?_,⟨by omega,by have:=CB (aH (aY D.of));omega⟩,fun b hb=>?_,fun k hk=>?_,fun r hr=>(hmem r hr).1,fun r hr=>(hmem r hr).2,fun k hk=>?_⟩
 ·unfold nH at a5
  simp only[Bool.and_eq_true,decide_eq_true_eq] at a5
  exact a5.1
 ·rw[←h1 b hb,←h2]
  have:=Cm E.refl hb
  omega
 ·have hk2:k<(aC (aH (aY D.of)) 256).length:=by rw[←jK];omega
  have hc:=jQ (aH (aY D.of)) 256 _ (List.getElem_mem hk2)
  exact⟨_,hc,by rw[←h1 _ hc];exact ag7 E k hk2⟩
 ·obtain⟨i,hi,rfl⟩:=List.mem_iff_getElem.1 hk
  have:=hrow i (by omega)
  unfold vK at this
  simp only[Bool.and_eq_true,decide_eq_true_eq,List.getD_eq_getElem?_getD,List.getElem?_eq_getElem hi,Option.getD_some] at this
  exact this.1.2
theorem gQ.goI{D:aQ}(h:gQ D){s:Nat}(hs:s<D.label.length)(b:UInt8):∃ (h1:s<D.next.length) (h2:D.of b.toNat<(D.next[s]).length),D.next[s][D.of b.toNat]=(EF D s b:Int)∧EF D s b<D.label.length:=by
 have h1:s<D.next.length:=by rw[h.nx];exact hs
 have hr:=List.getElem_mem h1
 have h2:D.of b.toNat<(D.next[s]).length:=by
  have a:=h.of b.toNat (by have:=b.toNat_lt;omega)
  have c:=h.SL _ hr
  omega
 have ht:=h.row _ hr _ (List.getElem_mem h2)
 have e:EF D s b=(D.next[s][D.of b.toNat]).toNat:=by
  unfold EF
  simp only[List.getD_eq_getElem?_getD,List.getElem?_eq_getElem h1,Option.getD_some,List.getElem?_eq_getElem h2]
 exact⟨h1,h2,by rw[e];omega,by rw[e];omega⟩
theorem gQ.fQ{D:aQ}(h:gQ D):∀ (w:List UInt8) {s:Nat},s<D.label.length→fQ D s w<D.label.length
 | [],_,hs=>hs
 | b::w,_,hs=>h.fQ w (h.goI hs b).2.2.2
theorem gQ.D8{D:aQ}{s:Nat}(hs:s<D.label.length):labS D s=D.label[s]:=by
 unfold labS;rw[List.getD_eq_getElem?_getD,List.getElem?_eq_getElem hs];rfl
def backTo(t:Nat)(r:List Int)(s:Nat):List Nat:=(r.filter (fun u=>u==(t:Int))).map fun _=>s
def afx(t:Nat):List (List Int)→Nat→List Nat
 | [],_=>[]
 | r::l,s=>backTo t r s++afx t l (s+1)
def alj(D:aQ)(t:Nat):List Nat:=afx t D.next 0
def YD:List Int→Nat→List Nat
 | [],_=>[]
 | k::l,s=>if k=0 then YD l (s+1) else s::YD l (s+1)
def alk(D:aQ):List Nat:=YD D.label 0
def aon(D:aQ):List Nat:=afw (alj D) D.label.length 0 (alk D)
end
section
open Go.RowKit
section
variable {σ:Type} [DecidableEq σ] (nx:σ→Nat→σ)
def wW(l:List (σ×Int×Nat))(x:σ×Int×Nat):List (σ×Int×Nat):=if (l.map (·.1)).contains x.1=true then l else l++[x]
def sG(i:Nat)(p:σ)(l:List (σ×Int×Nat))(cs:List Nat):List (σ×Int×Nat):=cs.foldl (fun l c=>wW l (nx p c,(i:Int),c)) l
def Ac(low:List Nat):Nat→Nat→List (σ×Int×Nat)→List (σ×Int×Nat)
 | 0,_,l=>l
 | f+1,i,l=>match l[i]? with
  | none=>l
  | some x=>Ac low f (i+1) (sG nx i x.1 l low)
structure jw(low:List Nat)(ok:σ→Prop)(l:List (σ×Int×Nat)):Prop where
 nd:(l.map (·.1)).Nodup
 ok:∀ x∈l,ok x.1
 fr:∀ j (h:j<l.length),0<j→∃ (i:Nat) (hi:i<l.length) (c:Nat),l[j]=(nx (l[i]).1 c,(i:Int),c)∧i<j∧c∈low
variable {nx} {low:List Nat} {ok:σ→Prop} {l:List (σ×Int×Nat)}
theorem Ip(l:List (σ×Int×Nat))(x:σ×Int×Nat):l <+: wW l x:=by
 unfold wW
 split
 ·exact List.prefix_refl _
 ·exact List.prefix_append _ _
theorem mF(i:Nat)(p:σ):∀ (cs:List Nat) (l:List (σ×Int×Nat)),l <+: sG nx i p l cs
 | [],l=>List.prefix_refl _
 | c::cs,l=>(Ip l _).trans (mF i p cs _)
theorem OX(i:Nat)(p:σ)(l:List (σ×Int×Nat))(cs:List Nat)(c:Nat):sG nx i p l (cs++[c])=wW (sG nx i p l cs) (nx p c,(i:Int),c):=by
 unfold sG;rw[List.foldl_append];rfl
theorem BQ:∀ (f i:Nat) (l:List (σ×Int×Nat)),l <+: Ac nx low f i l
 | 0,_,l=>List.prefix_refl _
 | f+1,i,l=>by
  rw[Ac]
  split
  ·exact List.prefix_refl _
  ·exact(mF i _ low l).trans (BQ f (i+1) _)
theorem adT(l:List (σ×Int×Nat))(x:σ×Int×Nat):x.1∈(wW l x).map (·.1):=by
 unfold wW
 split
 ·rename_i h;exact List.contains_iff_mem.1 h
 ·simp
theorem jw.add(h:jw nx low ok l){i:Nat}(hi:i<l.length){c:Nat}(hc:c∈low)(ho:ok (nx (l[i]).1 c)):jw nx low ok (wW l (nx (l[i]).1 c,(i:Int),c)):=by
 unfold wW
 by_cases hm:(l.map (·.1)).contains (nx (l[i]).1 c)=true
 ·rw[if_pos hm];exact h
 ·rw[if_neg hm]
  refine⟨?_,fun x hx=>?_,fun j hj h0=>?_⟩
  ·rw[List.map_append,List.nodup_append]
   refine⟨h.nd,by simp,fun a ha b hb=>?_⟩
   simp only[List.map_cons,List.map_nil,List.mem_singleton] at hb
   subst hb
   rintro rfl
   exact hm (List.contains_iff_mem.2 ha)
  ·rcases List.mem_append.1 hx with hx | hx
   ·exact h.ok x hx
   ·rw[List.mem_singleton.1 hx];exact ho
  ·rw[List.length_append,List.length_singleton] at hj
   by_cases hjl:j<l.length
   ·obtain⟨k,hk,d,e,h1,h2⟩:=h.fr j hjl h0
    exact⟨k,by rw[List.length_append];omega,d,by rw[List.getElem_append_left hjl,List.getElem_append_left hk];exact e,h1,h2⟩
   ·obtain rfl:j=l.length:=by omega
    exact⟨i,by rw[List.length_append];omega,c,by simp[List.getElem_append_left hi],hi,hc⟩
theorem pI{α:Type}{l m:List α}(h:l <+: m){i:Nat}(hi:i<l.length):∃ hm:i<m.length,m[i]=l[i]:=by
 obtain⟨t,rfl⟩:=h
 exact⟨by rw[List.length_append];omega,List.getElem_append_left hi⟩
theorem jw.exp(hok:∀ p,ok p→∀ c∈low,ok (nx p c)){i:Nat}{p:σ}:∀ (cs:List Nat) (l:List (σ×Int×Nat)),jw nx low ok l→∀ hi:i<l.length,(l[i]).1=p→(∀ c∈cs,c∈low)→jw nx low ok (sG nx i p l cs)∧∀ c∈cs,nx p c∈(sG nx i p l cs).map (·.1)
 | [],l,h,_,_,_=>⟨h,fun c hc=>by cases hc⟩
 | c::cs,l,h,hi,hp,hcs=>by
  have hc:=hcs c (List.mem_cons_self ..)
  have h1:=h.add hi hc (hok _ (h.ok _ (List.getElem_mem hi)) c hc)
  rw[hp] at h1
  obtain⟨hm,he⟩:=pI (Ip l (nx p c,(i:Int),c)) hi
  obtain⟨g1,g2⟩:=jw.exp (p:=p) hok cs _ h1 hm (by rw[he];exact hp) (fun d hd=>hcs d (List.mem_cons_of_mem _ hd))
  refine⟨g1,fun d hd=>?_⟩
  rcases List.mem_cons.1 hd with rfl | hd
  ·obtain⟨t,ht⟩:=mF (nx:=nx) i p cs (wW l (nx p d,(i:Int),d))
   show nx p d∈(sG nx i p (wW l (nx p d,(i:Int),d)) cs).map (·.1)
   rw[←ht,List.map_append]
   exact List.mem_append_left _ (adT l (nx p d,(i:Int),d))
  ·exact g2 d hd
theorem OY(hok:∀ p,ok p→∀ c∈low,ok (nx p c)){N:Nat}(hN:∀ m:List σ,m.Nodup→(∀ x∈m,ok x)→m.length≤N):∀ (f i:Nat) (l:List (σ×Int×Nat)),jw nx low ok l→N<f+i→i≤l.length→(∀ j (h:j<l.length),j<i→∀ c∈low,nx (l[j]).1 c∈l.map (·.1)) →
  jw nx low ok (Ac nx low f i l)∧∀ x∈Ac nx low f i l,∀ c∈low,nx x.1 c∈(Ac nx low f i l).map (·.1)
 | 0,i,l,h,hf,hi,hd=>by
  have:=hN _ h.nd (fun x hx=>by obtain⟨y,hy,rfl⟩:=List.mem_map.1 hx;exact h.ok y hy)
  rw[List.length_map] at this
  omega
 | f+1,i,l,h,hf,hi,hd=>by
  rw[Ac]
  cases hx:l[i]? with
  | none =>
   dsimp only
   have hil:=List.getElem?_eq_none_iff.1 hx
   refine⟨h,fun x hx c hc=>?_⟩
   obtain⟨j,hj,rfl⟩:=List.getElem_of_mem hx
   exact hd j hj (by omega) c hc
  | some x =>
   dsimp only
   obtain⟨hil,hxi⟩:=List.getElem?_eq_some_iff.1 hx
   obtain⟨g1,g2⟩:=jw.exp hok low l h hil (by rw[hxi]) (fun c hc=>hc)
   have hp:=mF (nx:=nx) i x.1 low l
   refine OY hok hN f (i+1) _ g1 (by omega) (by have:=hp.length_le;omega) fun j hj hji c hc=>?_
   by_cases e:j=i
   ·subst e
    obtain⟨_,e2⟩:=pI hp hil
    rw[e2,hxi];exact g2 c hc
   ·have hjl:j<l.length:=by omega
    obtain⟨_,e2⟩:=pI hp hjl
    rw[e2]
    have:=hd j hjl (by omega) c hc
    obtain⟨t,ht⟩:=hp
    rw[←ht,List.map_append]
    exact List.mem_append_left _ this
end
section
variable {σ:Type} {nx:σ→Nat→σ} {low:List Nat} {ok:σ→Prop} {l:List (σ×Int×Nat)}
theorem jw.len(h:jw nx low ok l){N:Nat}(hN:∀ m:List σ,m.Nodup→(∀ x∈m,ok x)→m.length≤N):l.length≤N:=by
 have:=hN _ h.nd (fun x hx=>by obtain⟨y,hy,rfl⟩:=List.mem_map.1 hx;exact h.ok y hy)
 rwa[List.length_map] at this
theorem jw.one(s:σ)(hs:ok s)(fr:Int)(by':Nat):jw nx low ok [(s,fr,by')] :=
 ⟨by simp,fun x hx=>by rw[List.mem_singleton.1 hx];exact hs,fun j hj h0=>by simp at hj;omega⟩
theorem SN{R:List (σ×Int×Nat)}(hcl:∀ x∈R,∀ c∈low,nx x.1 c∈R.map (·.1)):∀ (w:List Nat) (s:σ),s∈R.map (·.1)→(∀ c∈w,c∈low)→w.foldl nx s∈R.map (·.1)
 | [],s,hs,_=>hs
 | c::w,s,hs,hw=>by
  obtain⟨x,hx,rfl⟩:=List.mem_map.1 hs
  exact SN hcl w _ (hcl x hx c (hw c (List.mem_cons_self ..))) (fun d hd=>hw d (List.mem_cons_of_mem _ hd))
end
theorem wX{a b:Nat}:∀ m:List (Nat×Nat),m.Nodup→(∀ x∈m,x.1<a∧x.2<b)→m.length≤a*b:=by
 intro m hn hm
 have hb:∀ x∈m,x.1*b+x.2<a*b:=fun x hx=>by
  obtain⟨h1,h2⟩:=hm x hx
  have:(x.1+1)*b≤a*b:=Nat.mul_le_mul_right _ h1
  rw[Nat.add_mul] at this
  omega
 have hi:∀ x∈m,∀ y∈m,x.1*b+x.2=y.1*b+y.2→x=y:=fun x hx y hy e=>by
  have h1:=(hm x hx).2
  have h2:=(hm y hy).2
  have e1:x.2=y.2:=by
   have:=congrArg (· % b) e
   simp only[Nat.mul_comm _ b,Nat.mul_add_mod,Nat.mod_eq_of_lt h1,Nat.mod_eq_of_lt h2] at this
   exact this
  have e2:x.1*b=y.1*b:=by omega
  exact Prod.ext (Nat.eq_of_mul_eq_mul_right (by omega) e2) e1
 have hnd:(m.map fun x=>x.1*b+x.2).Nodup:=List.pairwise_map.2 (List.Pairwise.imp_of_mem (fun ha hb hne e=>hne (hi _ ha _ hb e)) hn)
 have:=nodup_lt_length (a*b) _ hnd (fun x hx=>by obtain⟨y,hy,rfl⟩:=List.mem_map.1 hx;exact hb y hy)
 rwa[List.length_map] at this
end
end Go.Proofs.YtengfapcaaacaaaGreatDoor
