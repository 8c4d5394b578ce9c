/- The texts of N23, in few letters (mini.py). -/
import Derived.Test.YtengfapcaaacaaaGreatDoorM9
import Derived.Test.YtengfapcaaacaaaGreatDoorM22
import Derived.Test.YtengfapcaaacaaaGreatDoorM5
import Derived.Deep.DeepCutAuto
set_option linter.unusedVariables false
set_option linter.unusedSimpArgs false
set_option maxHeartbeats 1600000
set_option maxRecDepth 20000
namespace Go.Proofs.YtengfapcaaacaaaGreatDoor
section
open Go.RowKit
abbrev bs(l:List UInt8):ByteArray:=⟨l.toArray⟩
theorem ahr{a b:List UInt8}(h:bs a=bs b):a=b:=by
 have:=congrArg (fun s:ByteArray=>s.data.toList) h
 simpa using this
def nameAt(l:List (List UInt8))(i:Nat):Bool:=qE (l.getD i [])&&!((l.take i).contains (l.getD i []))
def qg(l:List (List UInt8))(k:Nat):Bool:=(List.range k).all (nameAt l)
theorem Gp(l:List (List UInt8))(k:Nat):qg l (k+1)=(qg l k&&nameAt l k):=by
 unfold qg;rw[List.range_succ,List.all_append];simp
theorem EP(l:List (List UInt8))(k n:Nat)(hk:k<n)(h:nameAt l k=false):qg l n=false:=by
 unfold qg
 rw[List.all_eq_false]
 exact⟨k,by simpa using hk,by simp[h]⟩
def qj(l:List (List UInt8)):Bool:=decide (l.length≤64)&&qg l l.length
theorem UY(l:List (List UInt8))(s:List UInt8):Lib.containsS (l.map bs) (bs s)=l.contains s:=by
 rw[Bool.eq_iff_iff,Lib.containsS_iff,List.contains_iff_mem,List.mem_map]
 exact⟨fun⟨x,hx,he⟩=>ahr he▸hx,fun h=>⟨s,h,rfl⟩⟩
theorem aag(a:Option Addr)(cap n:Nat)(l:List (List UInt8))(w:World)(h:ak w (.slice a n cap) 1 kV l)(hl:∀ x∈l,x.length≤9223372036854775807) :
  Calls Tryz.prog 68 #[.slice a n cap] w (aY w (.bool (qj l))):=by
 obtain⟨b,o,hlen,hcap,hcap',ha,hcell⟩:=h.dh
 have hnn:n≤9223372036854775807:=by omega
 have e:qj l=(decide (n≤64)&&qg l n):=by rw[hlen];rfl
 rw[e]
 by_cases h64:64<n
 ·have e1:decide (n≤64)=false:=by simp;omega
  rw[e1]
  have alZ:(64:Int)<(n:Int):=by omega
  clear hlen hcell ha h e e1
  go_enter Tryz.func68,Tryz.ntmps68
  go_wp2
  go_ret
  exact⟨rfl,Below.refl _ _⟩
 ·have e1:decide (n≤64)=true:=by simp;omega
  rw[e1,Bool.true_and]
  have al0:decide ((64:Int)<(n:Int))=false:=by simp;omega
  have HC:=ah hcell
  have HL:=ah hlen
  have HA:=ah ha
  have HLL:=ah hl
  clear hlen hcell ha h e e1 hl
  go_enter Tryz.func68,Tryz.ntmps68
  go_wp2
  go_loopw [10] (fun i wr=>∃ k:Nat,k≤n∧i=.int .i64 k∧qg l k=true∧Below w.heap.size w wr) (fun i _=>n - (intOf i).toNat)
  case atStart=>exact⟨0,Nat.zero_le _,rfl,rfl,Below.refl _ _⟩
  case round =>
   obtain⟨k,hk,rfl,hok,hB⟩:=hrel
   by_cases hlt:k<n
   ·have hk2:k<l.length:=by rw[←HL.out];exact hlt
    obtain rfl:=HA.out k hk2
    have c0:=HC.out k hk2 wr hB
    have hnm:=fun w=>Oy l[k] w (HLL.out _ (List.getElem_mem hk2))
    have hnx:nameAt l k=(qE l[k]&&!((l.take k).contains l[k])):=by
     unfold nameAt;rw[List.getD_eq_getElem?_getD,List.getElem?_eq_getElem hk2];rfl
    have hsucc:=Gp l k
    rw[hok,Bool.true_and] at hsucc
    have hfalse:=EP l k n hlt
    have hcon:∀ w2,Below w.heap.size w w2→Calls Tryz.prog 113 #[.slice (some ⟨b,o,none⟩) k cap,sv l[k]] w2 (fun e w'=>e=.returned (.bool ((l.take k).contains l[k]))∧w'=w2):=fun w2 h2=>by
     have:=Tryz.slices_Contains_string b o k cap (l.map bs) (bs l[k]) w2 (by rw[List.length_map];omega) (by omega) (fun j hj=>by
      rw[List.length_map] at hj
      have:=HC.out j hj w2 h2
      rw[this,List.getD_eq_getElem?_getD,List.getElem?_map,List.getElem?_eq_getElem hj];rfl)
     rw[←List.map_take,UY] at this
     exact this
    generalize l[k]=s at *
    have uS:=ah hnm
    have HCO:=ah hcon
    have EL:=ah hsucc
    have Au:=ah hfalse
    have hk0:(0:Int)≤(k:Int):=by omega
    have hkm:(k:Int)<(n:Int):=by omega
    have hkc:(k:Int)≤(cap:Int):=by omega
    clear hnm hcon hsucc hfalse hok
    generalize (l.take k).contains s=q at *
    cases hn:qE s with
    | true =>
     rw[hn] at uS hnx
     cases q with
     | true =>
      have hx:nameAt l k=false:=hnx
      have HX:=ah hx
      clear hx hnx hn
      go_wp2_with (first | (go_at_call 42;go_must (refine(uS.out _).mono ?_;rintro e w1 ⟨rfl,hB1⟩;have hB2:=hB.trans (hB1.mono hB.size))) | (go_at_call 113;go_must (refine(HCO.out _ hB2).mono ?_;rintro e w3 ⟨rfl,rfl⟩)))
      go_ret
      exact⟨by rw[Au.out HX.out];rfl,hB2⟩
     | false =>
      have hx:nameAt l k=true:=hnx
      have HX:=ah hx
      clear hx hnx hn
      go_wp2_with (first | (go_at_call 42;go_must (refine(uS.out _).mono ?_;rintro e w1 ⟨rfl,hB1⟩;have hB2:=hB.trans (hB1.mono hB.size))) | (go_at_call 113;go_must (refine(HCO.out _ hB2).mono ?_;rintro e w3 ⟨rfl,rfl⟩)))
      go_roundw
      case rel=>exact⟨k+1,hlt,by go_num,by rw[EL.out,HX.out],hB2⟩
      case measure=>simp[intOf];omega
    | false =>
     rw[hn] at uS hnx
     have hx:nameAt l k=false:=hnx
     have HX:=ah hx
     clear hx hnx hn
     go_wp2_with (go_at_call 42;go_must (refine(uS.out _).mono ?_;rintro e w1 ⟨rfl,hB1⟩;have hB2:=hB.trans (hB1.mono hB.size)))
     go_ret
     exact⟨by rw[Au.out HX.out];rfl,hB2⟩
   ·obtain rfl:k=n:=by omega
    have zi:=ah hok
    clear hok
    go_wp2
    go_ret
    exact⟨by rw[zi.out];rfl,hB⟩
end
section
open Go.RowKit
structure bC where
 of:Nat→Nat
 width:Int
 next:List (List Int)
 label:List Int
 names:List (List UInt8)
structure aG where
 of:Nat→Nat
 width:Int
 na:Option Addr
 nn:Nat
 nc:Nat
 la:Option Addr
 ln:Nat
 lc:Nat
 ma:Option Addr
 mn:Nat
 mc:Nat
def aG.cells(V:aG):Array Value:=aS V.of++#[.int .i64 V.width,.slice V.na V.nn V.nc,.slice V.la V.ln V.lc,.slice V.ma V.mn V.mc]
theorem aG.size(V:aG):V.cells.size=260:=by unfold aG.cells;rw[Array.size_append,aV];rfl
theorem aG.sizes(V U:aG):V.cells.size=U.cells.size:=by rw[aG.size,aG.size]
theorem aG.LD(V:aG)(i:Nat)(h:i<256):V.cells[i]?=some (.int .u8 (V.of i:Nat)):=by
 unfold aG.cells;rw[Array.getElem?_append_left (by rw[aV];exact h),dS _ _ h]
theorem aG.Gq(V:aG):V.cells[256]?=some (.int .i64 V.width):=by
 unfold aG.cells;rw[Array.getElem?_append_right (by rw[aV];exact Nat.le_refl _),aV];rfl
theorem aG.Em(V:aG):V.cells[257]?=some (.slice V.na V.nn V.nc):=by
 unfold aG.cells;rw[Array.getElem?_append_right (by rw[aV];decide),aV];rfl
theorem aG.oV(V:aG):V.cells[258]?=some (.slice V.la V.ln V.lc):=by
 unfold aG.cells;rw[Array.getElem?_append_right (by rw[aV];decide),aV];rfl
theorem aG.Gs(V:aG):V.cells[259]?=some (.slice V.ma V.mn V.mc):=by
 unfold aG.cells;rw[Array.getElem?_append_right (by rw[aV];decide),aV];rfl
theorem aG.all(V:aG):V.cells.all (·.oneCell')=true:=by
 unfold aG.cells;rw[Array.all_append,gK,Bool.true_and]
 exact Array.all_eq_true_iff_forall_mem.2 (by intro v hv;simp at hv;rcases hv with rfl | rfl | rfl | rfl <;> rfl)
theorem Box.kS{w:World}{b E:Nat}{V:aG}(h:Box w b V.cells E):w.cell? ⟨b,256,none⟩=some (.int .i64 V.width)∧w.cell? ⟨b,257,none⟩=some (.slice V.na V.nn V.nc)∧w.cell? ⟨b,258,none⟩=some (.slice V.la V.ln V.lc)∧w.cell? ⟨b,259,none⟩=some (.slice V.ma V.mn V.mc) :=
 ⟨(h.cell _).trans V.Gq,(h.cell _).trans V.Em,(h.cell _).trans V.oV,(h.cell _).trans V.Gs⟩
theorem Box.ajV{w:World}{b E:Nat}{V:aG}(h:Box w b V.cells E):w.rangeAt b 0 (aS V.of).toList:=fun j v hv=>by
 have hj:j<256:=by have:=(List.getElem?_eq_some_iff.1 hv).1;rwa[Array.length_toList,aV] at this
 rw[h.cell,Nat.zero_add,V.LD j hj]
 rw[Array.getElem?_toList,dS _ _ hj] at hv
 exact hv
attribute [irreducible] aG.cells
def iJ(w:World)(V:aG)(D:bC):Prop:=V.of=D.of∧V.width=D.width∧ak w (.slice V.la V.ln V.lc) 1 encI D.label∧ak w (.slice V.ma V.mn V.mc) 1 kV D.names ∧
 ∃ rows:List Value,ak w (.slice V.na V.nn V.nc) 1 aci rows∧rows.length=D.next.length∧∀ i (h1:i<rows.length) (h2:i<D.next.length),∃ a c,rows[i]=.slice a (D.next[i]).length c∧ak w (.slice a (D.next[i]).length c) 1 encI D.next[i]
theorem iJ.kept{w w':World}{V:aG}{D:bC}(h:iJ w V D)(hb:Below w.heap.size w w'):iJ w' V D:=by
 obtain⟨h1,h2,h3,h4,rows,h5,h6,h7⟩:=h
 exact⟨h1,h2,h3.kept hb,h4.kept hb,rows,h5.kept hb,h6,fun i a b=>by obtain⟨x,c,e,k⟩:=h7 i a b;exact⟨x,c,e,k.kept hb⟩⟩
theorem iJ.lens{w:World}{V:aG}{D:bC}(h:iJ w V D):V.ln=D.label.length∧V.mn=D.names.length∧V.nn=D.next.length:=by
 obtain⟨_,_,h3,h4,rows,h5,h6,_⟩:=h
 obtain⟨_,_,e3,_⟩:=h3.open
 obtain⟨_,_,e4,_⟩:=h4.open
 obtain⟨_,_,e5,_⟩:=h5.open
 exact⟨e3,e4,e5.trans h6⟩
def vS(D:bC)(i:Nat):Bool:=(decide ((((D.next.getD i []).length:Nat):Int)=D.width)&&(decide (0≤D.label.getD i 0)&&decide (D.label.getD i 0≤(D.names.length:Nat))))&&(D.next.getD i []).all fun t=>decide (0≤t)&&decide (t<(D.label.length:Nat))
def jZ(D:bC)(k:Nat):Bool:=(List.range k).all (vS D)
theorem IU(D:bC)(k:Nat):jZ D (k+1)=(jZ D k&&vS D k):=by
 unfold jZ;rw[List.range_succ,List.all_append];simp
theorem Gt(D:bC)(k n:Nat)(hk:k<n)(h:vS D k=false):jZ D n=false:=by
 unfold jZ
 rw[List.all_eq_false]
 exact⟨k,by simpa using hk,by simp[h]⟩
def jC(D:bC):Bool:=(decide (1≤D.label.length)&&(decide (D.label.length≤65536)&&decide (D.next.length=D.label.length)))&&((kE (bf (aW (bH D.of))) D.of&&((iL (aW (bH D.of)):Nat)==D.width))&&(qj D.names&&jZ D D.next.length))
theorem acX:(Tryz.prog.info? 27).map (·.size)=some 260:=by kernel_rfl
theorem bQ(V:aG):(Tryz.prog.info? 27).map (·.size)=some V.cells.size:=by rw[aG.size];exact acX
theorem SC{of:Nat→Nat}{wd:Int}{nx:List (List Int)}{lb:List Int}{nm:List (List UInt8)}{n m:Nat}(hn:n=lb.length)(hm:m=nm.length){k:Nat}(h1:k<nx.length)(h2:k<lb.length) :
  vS ⟨of,wd,nx,lb,nm⟩ k=((decide (((nx[k].length:Nat):Int)=wd)&&(decide (0≤lb[k])&&decide (lb[k]≤(m:Nat))))&&nx[k].all fun t=>decide (0≤t)&&decide (t<(n:Nat))):=by
 subst hn;subst hm
 unfold vS
 simp only[List.getD_eq_getElem?_getD,List.getElem?_eq_getElem h1,List.getElem?_eq_getElem h2,Option.getD_some]
def rowAt(r:List Int)(n k:Nat):Bool:=(List.range k).all fun i=>decide (0≤r.getD i 0)&&decide (r.getD i 0<(n:Nat))
theorem LG(r:List Int)(n k:Nat)(h:k<r.length):rowAt r n (k+1)=(rowAt r n k&&(decide (0≤r[k])&&decide (r[k]<(n:Nat)))):=by
 unfold rowAt;rw[List.range_succ,List.all_append];simp[List.getD_eq_getElem?_getD,List.getElem?_eq_getElem h]
theorem rowAt_all(r:List Int)(n:Nat):rowAt r n r.length=r.all fun t=>decide (0≤t)&&decide (t<(n:Nat)):=by
 unfold rowAt
 rw[Bool.eq_iff_iff,List.all_eq_true,List.all_eq_true]
 constructor
 ·intro h t ht
  obtain⟨i,hi,rfl⟩:=List.mem_iff_getElem.1 ht
  have:=h i (by simpa using hi)
  rwa[List.getD_eq_getElem?_getD,List.getElem?_eq_getElem hi] at this
 ·intro h i hi
  have hi2:i<r.length:=by simpa using hi
  rw[List.getD_eq_getElem?_getD,List.getElem?_eq_getElem hi2]
  exact h _ (List.getElem_mem hi2)
theorem all_false{r:List Int}{p:Int→Bool}{k:Nat}(h:k<r.length)(hp:p r[k]=false):r.all p=false:=by
 rw[List.all_eq_false];exact⟨r[k],List.getElem_mem h,by simp[hp]⟩
theorem acY(V:aG)(D:bC)(w:World)(h:iJ w V D)(hnl:D.next.length=D.label.length):Calls Tryz.prog 69 #[.agg V.cells] w (aY w (.bool (jZ D D.next.length))):=by
 obtain⟨of,wd,na,nn,nc,la,n,lc,ma,mn,mc⟩:=V
 obtain⟨of',wd',nx,lb,nm⟩:=D
 have hst:=IU ⟨of',wd',nx,lb,nm⟩
 have hfa:=Gt ⟨of',wd',nx,lb,nm⟩
 obtain⟨h0,h1,h3,h4,rows,h5,h6,h7⟩:=h
 dsimp only at *
 subst h0
 subst h1
 obtain⟨b5,o5,e5,c5,SE,a5,k5⟩:=h5.dh
 obtain⟨b3,o3,e3,c3,c3',a3,k3⟩:=h3.dh
 obtain⟨_,_,e4,c4,c4',_⟩:=h4.dh
 obtain rfl:nn=n:=by omega
 have hnb:nn≤9223372036854775807:=by omega
 have hmb:mn≤9223372036854775807:=by omega
 rw[show nx.length=nn by omega]
 have hat:=fun k=>@SC of wd nx lb nm nn mn e3 e4 k
 have HR0:Hid (jZ ⟨of,wd,nx,lb,nm⟩ 0=true):=ah rfl
 generalize jZ ⟨of,wd,nx,lb,nm⟩=rt at *
 generalize vS ⟨of,wd,nx,lb,nm⟩=ro at *
 have HN:Hid (nx.length=nn∧lb.length=nn∧rows.length=nn):=ah ⟨by omega,by omega,by omega⟩
 have H7:=ah h7
 have HST:=ah hst
 have Au:=ah hfa
 have HAT:=ah hat
 have HK5:=ah k5
 have HK3:=ah k3
 have HA5:=ah a5
 have HA3:=ah a3
 clear hnl h6 h7 hst hfa hat e5 e3 e4 k5 k3 a5 a3 h3 h5 h4 c5 SE c3 c3' c4 c4'
 have hbx:=Box.new w (aG.cells ⟨of,wd,na,nn,nc,la,nn,lc,ma,mn,mc⟩) 27
 have hB0:=aj w (.cells (aG.cells ⟨of,wd,na,nn,nc,la,nn,lc,ma,mn,mc⟩) 27)
 obtain⟨x0,x1,x2,x3⟩:=hbx.kS
 dsimp only at x0 x1 x2 x3
 go_enter Tryz.func69,Tryz.ntmps69
 go_wp2
 have SG:=HR0.out
 go_loopw [14] (fun i wr=>∃ k:Nat,k≤nn∧i=.int .i64 k∧rt k=true∧Box wr w.heap.size (aG.cells ⟨of,wd,na,nn,nc,la,nn,lc,ma,mn,mc⟩) 27∧Below w.heap.size w wr) (fun i _=>nn - (intOf i).toNat)
 case atStart=>exact⟨0,Nat.zero_le _,rfl,SG,hbx,hB0⟩
 case round =>
  clear x0 x1 x2 x3 hbx hB0 SG
  obtain⟨k,hk,rfl,hok,hbx,hB⟩:=hrel
  obtain⟨x0,x1,x2,x3⟩:=hbx.kS
  dsimp only at x0 x1 x2 x3
  by_cases hlt:k<nn
  ·have hk1:k<nx.length:=by rw[HN.out.1];exact hlt
   have hk2:k<lb.length:=by rw[HN.out.2.1];exact hlt
   have hk3:k<rows.length:=by rw[HN.out.2.2];exact hlt
   obtain rfl:=HA5.out k hk3
   obtain rfl:=HA3.out k hk2
   have c5:=HK5.out k hk3 wr hB
   have c3:=HK3.out k hk2 wr hB
   have hro:=HAT.out k hk1 hk2
   obtain⟨ra,rc,hr,hrs⟩:=H7.out k hk3 hk1
   rw[hr] at c5
   have hsucc:=HST.out k
   rw[hok,Bool.true_and] at hsucc
   have hfalse:=Au.out k nn hlt
   generalize nx[k]=row at *
   generalize lb[k]=lab at *
   have ER:=ah hro
   have EL:=ah hsucc
   have uQ:=ah hfalse
   have hk0:(0:Int)≤(k:Int):=by omega
   have hkm:(k:Int)<(nn:Int):=by omega
   clear hro hr hsucc hfalse hok
   have hrl:row.length≤9223372036854775807:=by obtain⟨_,_,_,h1,h2,_⟩:=hrs.dh;omega
   obtain⟨b6,o6,_,_,_,a6,k6⟩:=hrs.dh
   have hra:=fun q=>LG row nn q
   have hrz:=rowAt_all row nn
   have SH:=fun q h hp=>all_false (r:=row) (p:=fun t=>decide (0≤t)&&decide (t<(nn:Nat))) (k:=q) h hp
   obtain⟨r,hrr⟩:∃ r,row.length=r:=⟨_,rfl⟩
   rw[hrr] at hrl
   have HRR:=ah hrr
   have HRA:=ah hra
   have HRZ:=ah hrz
   have HRF:=ah SH
   have HA6:=ah a6
   have SI:=ah k6
   rw[hrr] at c5
   have ahw:ro k=((decide (((r:Nat):Int)=wd)&&(decide (0≤lab)&&decide (lab≤(mn:Nat))))&&row.all fun t=>decide (0≤t)&&decide (t<(nn:Nat))):=by rw[ER.out,HRR.out]
   have xH:=ah ahw
   have HF:Hid (∀ v,Later wr.drew v→Box v w.heap.size (aG.cells ⟨of,wd,some ⟨b5,o5,none⟩,nn,nc,some ⟨b3,o3,none⟩,nn,lc,ma,mn,mc⟩) 27∧v.cell? ⟨b5,o5+k,none⟩=some (.slice ra r rc)∧v.cell? ⟨b3,o3+k,none⟩=some (.int .i64 lab)∧Below w.heap.size w v):=ah fun v hl =>
    ⟨hbx.drew.kept hl,(Below.cell hl (World.block_lt_of_cell? wr _ c5)).trans c5,(Below.cell hl (World.block_lt_of_cell? wr _ c3)).trans c3,hB.drew.trans (Below.mono hl hB.size)⟩
   clear ahw hrr hra hrz SH a6 k6 hrs ER
   clear hbx hB x0 x1 x2 x3
   have SE:=(HF.out wr.drew (Below.refl _ _)).2.1
   have c3':=(HF.out wr.drew (Below.refl _ _)).2.2.1
   by_cases h1:(r:Int)=wd
   ·have e1:((r:Int) != wd)=false:=by simp[h1]
    by_cases h2:lab<0
    ·have e2:decide (lab<0)=true:=by simp[h2]
     go_wp2_with fail
     refine aA (R:=Later) 24 (by kernel_rfl) ?_
     refine pl [0,1,2,3,4,5,6,7,8,9,10,11,12,13] ?_
     repeat
      refine dI ?_ rfl (fun w1 hl=>?_) ?_
      rotate_left
      ·obtain⟨hbx,c5,c3,_⟩:=HF.out w1 hl;obtain⟨x0,x1,x2,x3⟩:=hbx.kS;dsimp only at x0 x1 x2 x3;go_simp;try with_reducible rfl
      simp only[eA,eB,eC,Act.put,eD,eE,eF]
     refine bU ?_
     refine dK 14 rfl ?_
     simp only[eA,eB,eC,Act.put,eD,eE,eF]
     refine dK 15 rfl ?_
     simp only[eA,eB,eC,Act.put,eD,eE,eF]
     refine dK 16 rfl ?_
     simp only[eA,eB,eC,Act.put,eD,eE,eF]
     refine dK 17 rfl ?_
     simp only[eA,eB,eC,Act.put,eD,eE,eF]
     refine dK 18 rfl ?_
     simp only[eA,eB,eC,Act.put,eD,eE,eF]
     refine dK 19 rfl ?_
     simp only[eA,eB,eC,Act.put,eD,eE,eF]
     refine dK 20 rfl ?_
     simp only[eA,eB,eC,Act.put,eD,eE,eF]
     refine dK 21 rfl ?_
     simp only[eA,eB,eC,Act.put,eD,eE,eF]
     refine dK 22 rfl ?_
     simp only[eA,eB,eC,Act.put,eD,eE,eF]
     refine jM 23 ?_ rfl (fun w1 hl=>?_) ?_
     rotate_left
     ·obtain⟨hbx,c5,c3,_⟩:=HF.out w1 hl;obtain⟨x0,x1,x2,x3⟩:=hbx.kS;dsimp only at x0 x1 x2 x3;go_simp;try with_reducible rfl
     simp only[eA,eB,eC,Act.put,eD,eE,eF]
     refine aH (by kernel_rfl) (fun w1 hl=>?_) _
     have lY:=(HF.out _ hl).2.2.2
     go_wp2
     go_ret
     exact⟨by rw[uQ.out (by rw[xH.out];simp;omega)];rfl,lY⟩
    ·have e2:decide (lab<0)=false:=by simp;omega
     by_cases h3:(mn:Int)<lab
     ·have e3:decide ((mn:Int)<lab)=true:=by simp[h3]
      go_wp2_with fail
      refine aA (R:=Later) 24 (by kernel_rfl) ?_
      refine pl [0,1,2,3,4,5,6,7,8,9,10,11,12,13,14,15,16,17,18,19,20,21,22,23] ?_
      repeat
       refine dI ?_ rfl (fun w1 hl=>?_) ?_
       rotate_left
       ·obtain⟨hbx,c5,c3,_⟩:=HF.out w1 hl;obtain⟨x0,x1,x2,x3⟩:=hbx.kS;dsimp only at x0 x1 x2 x3;go_simp;try with_reducible rfl
       simp only[eA,eB,eC,Act.put,eD,eE,eF]
      refine bU ?_
      refine aH (by kernel_rfl) (fun w1 hl=>?_) _
      have lY:=(HF.out _ hl).2.2.2
      go_wp2
      go_ret
      exact⟨by rw[uQ.out (by rw[xH.out];simp;omega)];rfl,lY⟩
     ·have e3:decide ((mn:Int)<lab)=false:=by simp;omega
      go_wp2_with fail
      refine aA (R:=Later) 24 (by kernel_rfl) ?_
      refine pl [0,1,2,3,4,5,6,7,8,9,10,11,12,13,14,15,16,17,18,19,20,21,22,23] ?_
      repeat
       refine dI ?_ rfl (fun w1 hl=>?_) ?_
       rotate_left
       ·obtain⟨hbx,c5,c3,_⟩:=HF.out w1 hl;obtain⟨x0,x1,x2,x3⟩:=hbx.kS;dsimp only at x0 x1 x2 x3;go_simp;try with_reducible rfl
       simp only[eA,eB,eC,Act.put,eD,eE,eF]
      refine bU ?_
      refine aH (by kernel_rfl) (fun w1 hl=>?_) _
      have hF9:=HF.out _ hl
      clear hl
      go_wp2
      have hrow0:rowAt row nn 0=true:=rfl
      have HF9:=ah hF9
      obtain⟨JB,_,_,lY⟩:=hF9
      go_loopw [45] (fun i wr=>∃ q:Nat,q≤r∧i=.int .i64 q∧rowAt row nn q=true∧Box wr w.heap.size (aG.cells ⟨of,wd,some ⟨b5,o5,none⟩,nn,nc,some ⟨b3,o3,none⟩,nn,lc,ma,mn,mc⟩) 27∧Below w.heap.size w wr) (fun i _=>r - (intOf i).toNat)
      case atStart=>exact⟨0,Nat.zero_le _,rfl,hrow0,JB,lY⟩
      case round =>
       clear hrow0 JB lY
       obtain⟨q,hq,rfl,hrq,hbx,hB⟩:=hrel
       by_cases hlt3:q<r
       ·have hq2:q<row.length:=by rw[HRR.out];exact hlt3
        obtain rfl:=HA6.out q hq2
        have c6:=SI.out q hq2 wr hB
        have hra:=HRA.out q hq2
        have hrf:=HRF.out q hq2
        rw[hrq,Bool.true_and] at hra
        generalize row[q]=tt at *
        have acZ:=ah hra
        have SK:=ah hrf
        have hq0:(0:Int)≤(q:Int):=by omega
        have hqm:(q:Int)<(r:Int):=by omega
        clear hra hrf hrq
        by_cases t1:tt<0
        ·have e4:decide (tt<0)=true:=by simp[t1]
         go_wp2
         go_ret
         exact⟨by rw[uQ.out (by rw[xH.out,SK.out (by simp;omega),Bool.and_false])];rfl,hB⟩
        ·have e4:decide (tt<0)=false:=by simp;omega
         by_cases t2:(nn:Int)≤tt
         ·have e5:decide ((nn:Int)≤tt)=true:=by simp[t2]
          go_wp2
          go_ret
          exact⟨by rw[uQ.out (by rw[xH.out,SK.out (by simp;omega),Bool.and_false])];rfl,hB⟩
         ·have e5:decide ((nn:Int)≤tt)=false:=by simp;omega
          go_wp2
          go_roundw
          case rel=>exact⟨q+1,hlt3,by go_num,by rw[acZ.out];simp;omega,hbx,hB⟩
          case measure=>simp[intOf];omega
       ·obtain rfl:q=r:=by omega
        have hall:(row.all fun t=>decide (0≤t)&&decide (t<(nn:Nat)))=true:=by rw[←HRZ.out,HRR.out];exact hrq
        have En:ro k=true:=by rw[xH.out,hall];simp;omega
        have HRK:=ah En
        clear hall En hrq
        go_wp2
        go_roundw
        case rel=>exact⟨k+1,hlt,by go_num,by rw[EL.out,HRK.out],hbx,hB⟩
        case measure=>simp[intOf];omega
   ·have e1:((r:Int) != wd)=true:=by simp[h1]
    go_wp2_with fail
    refine aA (R:=Later) 24 (by kernel_rfl) ?_
    refine pl [0,1,2,3,4,5] ?_
    repeat
     refine dI ?_ rfl (fun w1 hl=>?_) ?_
     rotate_left
     ·obtain⟨hbx,c5,c3,_⟩:=HF.out w1 hl;obtain⟨x0,x1,x2,x3⟩:=hbx.kS;dsimp only at x0 x1 x2 x3;go_simp;try with_reducible rfl
     simp only[eA,eB,eC,Act.put,eD,eE,eF]
    refine bU ?_
    refine dK 6 rfl ?_
    simp only[eA,eB,eC,Act.put,eD,eE,eF]
    refine dK 7 rfl ?_
    simp only[eA,eB,eC,Act.put,eD,eE,eF]
    refine dK 8 rfl ?_
    simp only[eA,eB,eC,Act.put,eD,eE,eF]
    refine dK 9 rfl ?_
    simp only[eA,eB,eC,Act.put,eD,eE,eF]
    refine dK 10 rfl ?_
    simp only[eA,eB,eC,Act.put,eD,eE,eF]
    refine dK 11 rfl ?_
    simp only[eA,eB,eC,Act.put,eD,eE,eF]
    refine pl [12,13] ?_
    repeat
     refine dI ?_ rfl (fun w1 hl=>?_) ?_
     rotate_left
     ·obtain⟨hbx,c5,c3,_⟩:=HF.out w1 hl;obtain⟨x0,x1,x2,x3⟩:=hbx.kS;dsimp only at x0 x1 x2 x3;go_simp;try with_reducible rfl
     simp only[eA,eB,eC,Act.put,eD,eE,eF]
    refine bU ?_
    refine dK 14 rfl ?_
    simp only[eA,eB,eC,Act.put,eD,eE,eF]
    refine dK 15 rfl ?_
    simp only[eA,eB,eC,Act.put,eD,eE,eF]
    refine dK 16 rfl ?_
    simp only[eA,eB,eC,Act.put,eD,eE,eF]
    refine dK 17 rfl ?_
    simp only[eA,eB,eC,Act.put,eD,eE,eF]
    refine dK 18 rfl ?_
    simp only[eA,eB,eC,Act.put,eD,eE,eF]
    refine dK 19 rfl ?_
    simp only[eA,eB,eC,Act.put,eD,eE,eF]
    refine dK 20 rfl ?_
    simp only[eA,eB,eC,Act.put,eD,eE,eF]
    refine dK 21 rfl ?_
    simp only[eA,eB,eC,Act.put,eD,eE,eF]
    refine dK 22 rfl ?_
    simp only[eA,eB,eC,Act.put,eD,eE,eF]
    refine jM 23 ?_ rfl (fun w1 hl=>?_) ?_
    rotate_left
    ·obtain⟨hbx,c5,c3,_⟩:=HF.out w1 hl;obtain⟨x0,x1,x2,x3⟩:=hbx.kS;dsimp only at x0 x1 x2 x3;go_simp;try with_reducible rfl
    simp only[eA,eB,eC,Act.put,eD,eE,eF]
    refine aH (by kernel_rfl) (fun w1 hl=>?_) _
    have lY:=(HF.out _ hl).2.2.2
    go_wp2
    go_ret
    exact⟨by rw[uQ.out (by rw[xH.out];simp[h1])];rfl,lY⟩
  ·obtain rfl:k=nn:=by omega
   have zi:=ah hok
   clear hok
   go_wp2
   go_ret
   exact⟨by rw[zi.out];rfl,hB⟩
theorem Ik{P:Program}{ops:Array Oper}{rest:List Oper}{op:Oper}{a:Act}{w:World}{Q:Exit→Act→World→Prop}(hw:Region.wanted op (yielded ops a.tmps)=true)(ty:TypeId)(x:Operand)(ho:op.op=.load ty x)
  (b o:Nat) (hx:a.eval x=.pointer (some ⟨b,o,none⟩)) (cs:List Value) (d:TypeDesc) (hc:w.rangeAt b o cs)
  (hu:P.underlying ty=some d) (hd:d.isRow=true) (hi:(P.info? ty).map (·.size)=some cs.length)
  (h:wpList P ops Q rest (a.put op.dst (.agg cs.toArray)) w):wpList P ops Q (op::rest) a w :=
 BigFrame.wpList_want hw fun _ hK=>wp_load_mid ty x ho b o hx cs d hc hu hd hi (hK _ _ h)
theorem oH{P:Program}{ops:Array Oper}{rest:List Oper}{op:Oper}{a:Act}{w:World}{Q:Exit→Act→World→Prop}(hw:Region.wanted op (yielded ops a.tmps)=true)(ty:TypeId)(x:Operand)(ho:op.op=.load ty x)
  (b:Nat) (hx:a.eval x=.pointer (some ⟨b,0,none⟩)) {V:aG} {E:TypeId} (hb:Box w b V.cells E) {d:TypeDesc}
  (hu:P.underlying ty=some d) (hd:d.isRow=true) (hi:(P.info? ty).map (·.size)=some (aS V.of).size)
  (h:wpList P ops Q rest (a.put op.dst (.agg (aS V.of))) w):wpList P ops Q (op::rest) a w :=
 Ik hw ty x ho b 0 hx (aS V.of).toList d hb.ajV hu hd (by rw[Array.length_toList];exact hi) h
end
section
open Go.RowKit
theorem BD(V:aG)(D:bC)(w:World)(h:iJ w V D)(hl:∀ x∈D.names,x.length≤9223372036854775807):Calls Tryz.prog 37 #[.agg V.cells] w (aY w (.bool (jC D))):=by
 have hbx:=Box.new w V.cells 27
 have hB0:=aj w (.cells V.cells 27)
 obtain⟨x0,x1,x2,x3⟩:=hbx.kS
 obtain⟨e1,e2,e3⟩:=h.lens
 have hk:=fun w1 (hb:Below w.heap.size w w1)=>h.kept hb
 have hpr:=fun w1=>Ux V.of V.width w1
 have hnm:=fun w1 (hb:Below w.heap.size w w1)=>aag V.ma V.mc V.mn D.names w1 (by have:=h.2.2.2.1;rw[←e2] at *;exact this.kept hb) hl
 have hrw:=fun w1 (hb:Below w.heap.size w w1) hnl=>acY V D w1 (h.kept hb) hnl
 have hnb:V.ln≤9223372036854775807:=by obtain⟨_,_,_,c3,c3',_⟩:=h.2.2.1.dh;omega
 have CQ:V.nn≤9223372036854775807:=by obtain⟨_,h5,_,_⟩:=h.2.2.2.2;obtain⟨_,_,_,c3,c3',_⟩:=h5.dh;omega
 have hr:jC D=((decide (1≤V.ln)&&(decide (V.ln≤65536)&&decide (V.nn=V.ln)))&&((kE (bf (aW (bH V.of))) V.of&&((iL (aW (bH V.of)):Nat)==V.width))&&(qj D.names&&jZ D D.next.length))):=by
  rw[e1,e3,h.1,h.2.1];rfl
 have SL:V.nn=V.ln→D.next.length=D.label.length:=fun e=>by omega
 rw[hr]
 have al1:=ah SL
 have VQ:=ah hpr
 have uS:=ah hnm
 clear hk hpr hnm hr SL e1 e2 e3
 generalize hp:(kE (bf (aW (bH V.of))) V.of&&((iL (aW (bH V.of)):Nat)==V.width))=p at *
 generalize qj D.names=nm at *
 generalize jZ D D.next.length=rw at *
 clear hp h hl
 by_cases b1:1≤V.ln
 ·have e1:decide (1≤(V.ln:Int))=true:=by simp;omega
  by_cases b2:V.ln≤65536
  ·have e2:decide ((V.ln:Int)≤65536)=true:=by simp;omega
   by_cases b3:V.nn=V.ln
   ·have HRW:=ah (fun w1 hb=>hrw w1 hb (al1.out b3))
    have q:(decide (1≤V.ln)&&(decide (V.ln≤65536)&&decide (V.nn=V.ln)))=true:=by simp[b1,b2,b3]
    rw[q,Bool.true_and]
    have e3:((V.nn:Int)==(V.ln:Int))=true:=by simp[b3]
    have e3':(V.nn==V.ln)=true:=by simp[b3]
    clear b1 b2 b3 q hrw
    cases p with
    | false =>
     go_enter Tryz.func37,Tryz.ntmps37
     go_wp2_with (first | (refine oH (by rfl) 22 _ rfl w.heap.size rfl hbx Tryz.underlying22 rfl (aT _) ?_) | (go_at_call 67;go_must (refine(VQ.out _).mono ?_;rintro e w1 ⟨rfl,hB1⟩;have dO:=hbx.kept hB1;have hB1:=hB0.trans (hB1.mono (by simp));obtain⟨y0,y1,y2,y3⟩:=dO.kS)) | (go_at_call 68;go_must (refine(uS.out _ hB1).mono ?_;rintro e w2 ⟨rfl,hB2⟩;have hbx2:=dO.kept hB2;have hB2:=hB1.trans (hB2.mono hB1.size))) | (refine bM (by rfl) 27 _ rfl w.heap.size rfl _ _ _ _ hbx2 Tryz.underlying27 rfl (bQ _) ?_) | (go_at_call 69;go_must (refine(HRW.out _ hB2).mono ?_;rintro e w3 ⟨rfl,hB3⟩)))
     go_ret
     exact⟨rfl,hB1⟩
    | true =>
     cases nm with
     | false =>
      go_enter Tryz.func37,Tryz.ntmps37
      go_wp2_with (first | (refine oH (by rfl) 22 _ rfl w.heap.size rfl hbx Tryz.underlying22 rfl (aT _) ?_) | (go_at_call 67;go_must (refine(VQ.out _).mono ?_;rintro e w1 ⟨rfl,hB1⟩;have dO:=hbx.kept hB1;have hB1:=hB0.trans (hB1.mono (by simp));obtain⟨y0,y1,y2,y3⟩:=dO.kS)) | (go_at_call 68;go_must (refine(uS.out _ hB1).mono ?_;rintro e w2 ⟨rfl,hB2⟩;have hbx2:=dO.kept hB2;have hB2:=hB1.trans (hB2.mono hB1.size))) | (refine bM (by rfl) 27 _ rfl w.heap.size rfl _ _ _ _ hbx2 Tryz.underlying27 rfl (bQ _) ?_) | (go_at_call 69;go_must (refine(HRW.out _ hB2).mono ?_;rintro e w3 ⟨rfl,hB3⟩)))
      go_ret
      exact⟨rfl,hB2⟩
     | true =>
      go_enter Tryz.func37,Tryz.ntmps37
      go_wp2_with (first | (refine oH (by rfl) 22 _ rfl w.heap.size rfl hbx Tryz.underlying22 rfl (aT _) ?_) | (go_at_call 67;go_must (refine(VQ.out _).mono ?_;rintro e w1 ⟨rfl,hB1⟩;have dO:=hbx.kept hB1;have hB1:=hB0.trans (hB1.mono (by simp));obtain⟨y0,y1,y2,y3⟩:=dO.kS)) | (go_at_call 68;go_must (refine(uS.out _ hB1).mono ?_;rintro e w2 ⟨rfl,hB2⟩;have hbx2:=dO.kept hB2;have hB2:=hB1.trans (hB2.mono hB1.size))) | (refine bM (by rfl) 27 _ rfl w.heap.size rfl _ _ _ _ hbx2 Tryz.underlying27 rfl (bQ _) ?_) | (go_at_call 69;go_must (refine(HRW.out _ hB2).mono ?_;rintro e w3 ⟨rfl,hB3⟩)))
      go_ret
      exact⟨rfl,hB2.trans (hB3.mono hB2.size)⟩
   ·have q:(decide (1≤V.ln)&&(decide (V.ln≤65536)&&decide (V.nn=V.ln)))=false:=by simp[b3]
    rw[q,Bool.false_and]
    have e3:((V.nn:Int)==(V.ln:Int))=false:=by simp;omega
    have e3':(V.nn==V.ln)=false:=by simp[b3]
    clear b1 b2 b3 q hrw
    go_enter Tryz.func37,Tryz.ntmps37
    go_wp2
    go_ret
    exact⟨rfl,hB0⟩
  ·have q:(decide (1≤V.ln)&&(decide (V.ln≤65536)&&decide (V.nn=V.ln)))=false:=by simp[b2]
   rw[q,Bool.false_and]
   have e2:decide ((V.ln:Int)≤65536)=false:=by simp;omega
   clear b1 b2 q hrw
   go_enter Tryz.func37,Tryz.ntmps37
   go_wp2
   go_ret
   exact⟨rfl,hB0⟩
 ·have q:(decide (1≤V.ln)&&(decide (V.ln≤65536)&&decide (V.nn=V.ln)))=false:=by simp[b1]
  rw[q,Bool.false_and]
  have e1:decide (1≤(V.ln:Int))=false:=by simp;omega
  clear b1 q hrw
  go_enter Tryz.func37,Tryz.ntmps37
  go_wp2
  go_ret
  exact⟨rfl,hB0⟩
end
section
open Go.RowKit
def oW(D:bC)(s:Nat)(b:UInt8):Nat:=((D.next.getD s []).getD (D.of b.toNat) 0).toNat
def vT(D:bC)(s:Nat)(w:List UInt8):Nat:=w.foldl (oW D) s
def labS(D:bC)(s:Nat):Int:=D.label.getD s 0
def BF(D:bC)(s:Nat):Prop:=∀ w:List UInt8,labS D (vT D s w)=0
def nT(D:bC):Nat→List UInt8→Option (Int×Nat)
 | _,[]=>none
 | s,b::w=>match nT D (oW D s b) w with
  | some r=>some (r.1,r.2+1)
  | none=>if labS D (oW D s b)=0 then none else some (labS D (oW D s b),1)
theorem BG(D:bC)(s:Nat)(b:UInt8)(w:List UInt8):vT D s (b::w)=vT D (oW D s b) w:=rfl
theorem BF.go{D:bC}{s:Nat}(h:BF D s)(b:UInt8):BF D (oW D s b):=fun w=>h (b::w)
theorem LH{D:bC}:∀ (w:List UInt8) {s:Nat},BF D s→nT D s w=none
 | [],_,_=>rfl
 | b::w,s,h=>by rw[nT,LH w (h.go b)];exact if_pos (h [b])
def JC(D:bC)(live:Nat→Bool):Nat→Nat→Int×Nat→List UInt8→Int×Nat
 | _,_,last,[]=>last
 | s,pos,last,b::w =>
  let last':=if labS D (oW D s b)=0 then last else (labS D (oW D s b),pos+1)
  if live (oW D s b)=true then JC D live (oW D s b) (pos+1) last' w else last'
theorem OU{D:bC}{live:Nat→Bool}(hl:∀ s,live s=false→BF D s):∀ (w:List UInt8) (s pos:Nat) (last:Int×Nat),JC D live s pos last w=match nT D s w with | some r=>(r.1,pos+r.2) | none=>last
 | [],_,_,_=>rfl
 | b::w,s,pos,last=>by
  rw[JC,nT]
  cases hv:live (oW D s b) with
  | false =>
   rw[LH w (hl _ hv)]
   dsimp only
   by_cases h:labS D (oW D s b)=0
   ·rw[if_neg (by simp),if_pos h,if_pos h]
   ·rw[if_neg (by simp),if_neg h,if_neg h]
  | true =>
   rw[if_pos rfl,OU hl w]
   cases hb:nT D (oW D s b) w with
   | some r=>dsimp only;rw[show pos+1+r.2=pos+(r.2+1) by omega]
   | none =>
    dsimp only
    by_cases h:labS D (oW D s b)=0
    ·rw[if_pos h,if_pos h]
    ·rw[if_neg h,if_neg h]
theorem LJ{D:bC}:∀ (w:List UInt8) {s:Nat} {k:Int} {n:Nat},nT D s w=some (k,n)→0<n∧n≤w.length∧k≠0∧labS D (vT D s (w.take n))=k∧∀ m,n<m→m≤w.length→labS D (vT D s (w.take m))=0
 | [],_,_,_,h=>by simp[nT] at h
 | b::w,s,k,n,h=>by
  rw[nT] at h
  have ac0:∀ (w:List UInt8) (s:Nat),nT D s w=none→∀ m,0<m→m≤w.length→labS D (vT D s (w.take m))=0:=by
   intro w
   induction w with
   | nil=>intro s _ m h1 h2;simp at h2;omega
   | cons b w ih =>
    intro s h m h1 h2
    rw[nT] at h
    cases hb:nT D (oW D s b) w with
    | some r=>rw[hb] at h;simp at h
    | none =>
     rw[hb] at h
     obtain⟨m,rfl⟩:∃ j,m=j+1:=⟨m - 1,by omega⟩
     rw[List.take_succ_cons,BG]
     rw[List.length_cons] at h2
     cases m with
     | zero =>
      dsimp only at h
      by_cases h0:labS D (oW D s b)=0
      ·exact h0
      ·rw[if_neg h0] at h;simp at h
     | succ m=>exact ih _ hb (m+1) (by omega) (by omega)
  cases hb:nT D (oW D s b) w with
  | some r =>
   obtain⟨k',n'⟩:=r
   rw[hb] at h
   dsimp only at h
   obtain⟨rfl,rfl⟩:=Prod.mk.inj (Option.some.inj h)
   obtain⟨h1,h2,h3,h4,h5⟩:=LJ w hb
   refine⟨by omega,by rw[List.length_cons];omega,h3,?_,fun m hm hl=>?_⟩
   ·rw[List.take_succ_cons,BG];exact h4
   ·obtain⟨m,rfl⟩:∃ j,m=j+1:=⟨m - 1,by omega⟩
    rw[List.length_cons] at hl
    rw[List.take_succ_cons,BG];exact h5 m (by omega) (by omega)
  | none =>
   rw[hb] at h
   dsimp only at h
   by_cases h0:labS D (oW D s b)=0
   ·rw[if_pos h0] at h;simp at h
   ·rw[if_neg h0] at h
    obtain⟨rfl,rfl⟩:=Prod.mk.inj (Option.some.inj h)
    refine⟨by omega,by rw[List.length_cons];omega,h0,?_,fun m hm hl=>?_⟩
    ·rw[List.take_succ_cons,List.take_zero];rfl
    ·obtain⟨m,rfl⟩:∃ j,m=j+1:=⟨m - 1,by omega⟩
     rw[List.length_cons] at hl
     rw[List.take_succ_cons,BG];exact ac0 w _ hb m (by omega) (by omega)
def xI(D:bC)(w:List UInt8)(at_:Nat):Option (Int×Nat):=(nT D 0 (w.drop at_)).map fun r=>(r.1,at_+r.2)
def xY(D:bC)(w:List UInt8):Nat→Nat→List (Int×Nat×Nat)×Nat
 | 0,at_=>([],at_)
 | f+1,at_=>match xI D w at_ with
  | none=>([],at_)
  | some r=>((r.1,at_,r.2)::(xY D w f r.2).1,(xY D w f r.2).2)
theorem Gu{D:bC}{w:List UInt8}{at_:Nat}{k:Int}{e:Nat}(h:xI D w at_=some (k,e)):at_<e∧e≤w.length∧k≠0∧labS D (vT D 0 ((w.drop at_).take (e - at_)))=k∧∀ m,e<m→m≤w.length→labS D (vT D 0 ((w.drop at_).take (m - at_)))=0:=by
 unfold xI at h
 cases hb:nT D 0 (w.drop at_) with
 | none=>rw[hb] at h;simp at h
 | some r =>
  obtain⟨k',n⟩:=r
  rw[hb] at h
  simp only[Option.map_some,Option.some.injEq,Prod.mk.injEq] at h
  obtain⟨rfl,rfl⟩:=h
  obtain⟨g1,g2,g3,g4,g5⟩:=LJ _ hb
  rw[List.length_drop] at g2 g5
  refine⟨by omega,by omega,g3,?_,fun m hm hl=>?_⟩
  ·rw[show at_+n - at_=n by omega];exact g4
  ·exact g5 (m - at_) (by omega) (by omega)
end
section
open Go.RowKit
theorem ac1{D:bC}(h:jC D=true):(∀ b,b<256→bf (aW (bH D.of)) b=D.of b)∧((iL (aW (bH D.of)):Nat):Int)=D.width:=by
 unfold jC at h
 simp only[Bool.and_eq_true,decide_eq_true_eq,beq_iff_eq] at h
 exact⟨(Ip _ _).1 h.2.1.1,h.2.1.2⟩
theorem af4{R:Nat→Nat→Bool}(E:yO R)(k:Nat)(h:k<(aI R 256).length):bf R (aI R 256)[k]=k:=by
 unfold bf
 rw[DY h (E.refl _) fun i hi=>rY E 256 _ _ (List.getElem_mem h) (tu R 256 i k hi h)]
 rfl
end
section
open Go.RowKit
def lu:List Nat→List Nat→List Nat
 | [],ws=>ws
 | t::ts,ws=>lu ts (if ws.contains t then ws else ws++[t])
def ny(on:Nat→List Nat):Nat→Nat→List Nat→List Nat
 | 0,_,ws=>ws
 | f+1,i,ws=>match ws[i]? with
  | none=>ws
  | some s=>ny on f (i+1) (lu (on s) ws)
theorem Gv:∀ (a b ws:List Nat),lu (a++b) ws=lu b (lu a ws)
 | [],_,_=>rfl
 | t::a,b,ws=>by rw[List.cons_append,lu,lu,Gv a b]
theorem Gw:∀ (ts ws:List Nat),ws <+: lu ts ws
 | [],ws=>List.prefix_refl _
 | t::ts,ws=>by
  rw[lu]
  refine List.IsPrefix.trans ?_ (Gw ts _)
  split
  ·exact List.prefix_refl _
  ·exact List.prefix_append _ _
theorem uT:∀ (ts ws:List Nat) (x:Nat),x∈lu ts ws↔x∈ws∨x∈ts
 | [],ws,x=>by simp[lu]
 | t::ts,ws,x=>by
  rw[lu,uT ts]
  by_cases h:ws.contains t=true
  ·rw[if_pos h]
   have h2:t∈ws:=List.contains_iff_mem.1 h
   simp only[List.mem_cons]
   constructor
   ·rintro(a | a)
    ·exact .inl a
    ·exact .inr (.inr a)
   ·rintro(a | rfl | a)
    ·exact .inl a
    ·exact .inl h2
    ·exact .inr a
  ·rw[if_neg h]
   simp only[List.mem_append,List.mem_cons,List.not_mem_nil,or_false]
   constructor
   ·rintro((a | a) | a)
    ·exact .inl a
    ·exact .inr (.inl a)
    ·exact .inr (.inr a)
   ·rintro(a | a | a)
    ·exact .inl (.inl a)
    ·exact .inl (.inr a)
    ·exact .inr a
theorem xZ:∀ (ts ws:List Nat),ws.Nodup→(lu ts ws).Nodup
 | [],ws,h=>h
 | t::ts,ws,h=>by
  rw[lu]
  refine xZ ts _ ?_
  split
  ·exact h
  ·rename_i hc
   rw[List.nodup_append]
   refine⟨h,List.pairwise_singleton _ _,?_⟩
   intro a ha b hb
   rw[List.mem_singleton] at hb
   subst hb
   rintro rfl
   exact hc (List.contains_iff_mem.2 ha)
inductive Eo (on:Nat→List Nat):Nat→Nat→Prop
 | here (s:Nat):Eo on s s
 | on {s t u:Nat}:Eo on s t→u∈on t→Eo on s u
theorem nodup_lt_length(n:Nat)(l:List Nat)(hn:l.Nodup)(hl:∀ x∈l,x<n):l.length≤n:=by
 induction n generalizing l with
 | zero =>
  cases l with
  | nil=>exact Nat.le_refl _
  | cons x l=>exact absurd (hl x (List.mem_cons_self ..)) (Nat.not_lt_zero _)
 | succ n ih =>
  have h1:=ih (l.erase n) (hn.erase n) (fun x hx=>by
   obtain⟨a,b⟩:=(hn.mem_erase_iff).1 hx
   have:=hl x b;omega)
  by_cases hm:n∈l
  ·rw[List.length_erase_of_mem hm] at h1;omega
  ·rw[List.erase_of_not_mem hm] at h1;omega
theorem Ep(on:Nat→List Nat)(n:Nat)(hon:∀ x,x<n→∀ t∈on x,t<n):∀ (f i:Nat) (ws:List Nat),ws.Nodup→(∀ x∈ws,x<n)→n≤f+i→(∀ j (_:j<i) (h:j<ws.length),∀ t∈on ws[j],t∈ws) →
  ws <+: ny on f i ws∧(ny on f i ws).Nodup∧(∀ x∈ny on f i ws,x<n)∧(∀ x∈ny on f i ws,∀ t∈on x,t∈ny on f i ws)∧(∀ x∈ny on f i ws,∃ s∈ws,Eo on s x)
 | 0,i,ws,hnd,hlt,hf,hc=>by
  have hl:=nodup_lt_length n ws hnd hlt
  simp only[ny]
  refine⟨List.prefix_refl _,hnd,hlt,fun x hx t ht=>?_,fun x hx=>⟨x,hx,.here x⟩⟩
  obtain⟨j,hj,rfl⟩:=List.mem_iff_getElem.1 hx
  exact hc j (by omega) hj t ht
 | f+1,i,ws,hnd,hlt,hf,hc=>by
  rw[ny]
  by_cases h:i<ws.length
  ·rw[List.getElem?_eq_getElem h]
   dsimp only
   have hs:ws[i]<n:=hlt _ (List.getElem_mem h)
   have hp:=Gw (on ws[i]) ws
   obtain⟨h1,h2,h3,h4,h5⟩:=Ep on n hon f (i+1) (lu (on ws[i]) ws) (xZ _ _ hnd) (fun x hx=>by
     rcases (uT _ _ _).1 hx with a | a
     ·exact hlt x a
     ·exact hon _ hs x a) (by omega) (fun j hj hl t ht=>by
     rw[uT]
     by_cases e:j=i
     ·subst e
      have e2:(lu (on ws[j]) ws)[j]=ws[j]:=(hp.getElem h).symm
      rw[e2] at ht
      exact .inr ht
     ·have hjl:j<ws.length:=by omega
      have e2:(lu (on ws[i]) ws)[j]=ws[j]:=(hp.getElem hjl).symm
      rw[e2] at ht
      exact .inl (hc j (by omega) hjl t ht))
   refine⟨hp.trans h1,h2,h3,h4,fun x hx=>?_⟩
   obtain⟨s,hs2,hx2⟩:=h5 x hx
   rcases (uT _ _ _).1 hs2 with a | a
   ·exact⟨s,a,hx2⟩
   ·refine⟨ws[i],List.getElem_mem h,?_⟩
    have hl1:Eo on ws[i] s:=.on (.here _) a
    clear hs2 a hx h1 h2 h3 h4 h5
    induction hx2 with
    | here=>exact hl1
    | on _ h2 ih=>exact .on ih h2
  ·rw[List.getElem?_eq_none (by omega)]
   dsimp only
   refine⟨List.prefix_refl _,hnd,hlt,fun x hx t ht=>?_,fun x hx=>⟨x,hx,.here x⟩⟩
   obtain⟨j,hj,rfl⟩:=List.mem_iff_getElem.1 hx
   exact hc j (by omega) hj t ht
theorem aah(on:Nat→List Nat)(n:Nat)(hon:∀ x,x<n→∀ t∈on x,t<n)(ws:List Nat)(hnd:ws.Nodup)(hlt:∀ x∈ws,x<n)(x:Nat):x∈ny on n 0 ws↔∃ s∈ws,Eo on s x:=by
 obtain⟨h1,_,_,h4,h5⟩:=Ep on n hon n 0 ws hnd hlt (by omega) (fun j hj=>absurd hj (Nat.not_lt_zero _))
 refine⟨h5 x,?_⟩
 rintro⟨s,hs,hx⟩
 induction hx with
 | here=>exact h1.subset hs
 | on _ hu ih=>exact h4 _ ih _ hu
structure rE(D:bC):Prop where
 pos:1≤D.label.length
 le:D.label.length≤65536
 nx:D.next.length=D.label.length
 names:D.names.length≤64
 wd:0≤D.width∧D.width≤256
 of:∀ b,b<256→((D.of b:Nat):Int)<D.width
 onto:∀ k:Nat,(k:Int)<D.width→∃ b,b<256∧D.of b=k
 NS:∀ r∈D.next,((r.length:Nat):Int)=D.width
 row:∀ r∈D.next,∀ t∈r,0≤t∧t<(D.label.length:Nat)
 lab:∀ k∈D.label,0≤k∧k≤(D.names.length:Nat)
theorem SN{D:bC}(h:jC D=true):rE D:=by
 obtain⟨h1,h2⟩:=ac1 h
 have E:=oL (bH D.of)
 unfold jC at h
 simp only[Bool.and_eq_true,decide_eq_true_eq] at h
 obtain⟨⟨a1,a2,a3⟩,_,a5,a6⟩:=h
 have hrow:∀ i,i<D.next.length→vS D i=true:=fun i hi=>by
  unfold jZ at a6
  exact List.all_eq_true.1 a6 i (List.mem_range.2 hi)
 have hmem:∀ r∈D.next,((r.length:Nat):Int)=D.width∧∀ t∈r,0≤t∧t<(D.label.length:Nat):=fun r hr=>by
  obtain⟨i,hi,rfl⟩:=List.mem_iff_getElem.1 hr
  have:=hrow i hi
  unfold vS at this
  simp only[Bool.and_eq_true,decide_eq_true_eq,List.all_eq_true,List.getD_eq_getElem?_getD,List.getElem?_eq_getElem hi,Option.getD_some] at this
  exact⟨this.1.1,fun t ht=>this.2 t ht⟩
 refine⟨a1,a2,a3,?_,⟨by omega,by have:=Hr (aW (bH D.of));omega⟩,fun b hb=>?_,fun k hk=>?_,fun r hr=>(hmem r hr).1,fun r hr=>(hmem r hr).2,fun k hk=>?_⟩
 ·unfold qj at a5
  simp only[Bool.and_eq_true,decide_eq_true_eq] at a5
  exact a5.1
 ·rw[←h1 b hb,←h2]
  have:=Hq E.refl hb
  omega
 ·have hk2:k<(aI (aW (bH D.of)) 256).length:=by rw[←nI];omega
  have hc:=lN (aW (bH D.of)) 256 _ (List.getElem_mem hk2)
  exact⟨_,hc,by rw[←h1 _ hc];exact af4 E k hk2⟩
 ·obtain⟨i,hi,rfl⟩:=List.mem_iff_getElem.1 hk
  have:=hrow i (by omega)
  unfold vS at this
  simp only[Bool.and_eq_true,decide_eq_true_eq,List.getD_eq_getElem?_getD,List.getElem?_eq_getElem hi,Option.getD_some] at this
  exact this.1.2
theorem rE.goI{D:bC}(h:rE D){s:Nat}(hs:s<D.label.length)(b:UInt8):∃ (h1:s<D.next.length) (h2:D.of b.toNat<(D.next[s]).length),D.next[s][D.of b.toNat]=(oW D s b:Int)∧oW D s b<D.label.length:=by
 have h1:s<D.next.length:=by rw[h.nx];exact hs
 have hr:=List.getElem_mem h1
 have h2:D.of b.toNat<(D.next[s]).length:=by
  have a:=h.of b.toNat (by have:=b.toNat_lt;omega)
  have c:=h.NS _ hr
  omega
 have ht:=h.row _ hr _ (List.getElem_mem h2)
 have e:oW D s b=(D.next[s][D.of b.toNat]).toNat:=by
  unfold oW
  simp only[List.getD_eq_getElem?_getD,List.getElem?_eq_getElem h1,Option.getD_some,List.getElem?_eq_getElem h2]
 exact⟨h1,h2,by rw[e];omega,by rw[e];omega⟩
theorem rE.vT{D:bC}(h:rE D):∀ (w:List UInt8) {s:Nat},s<D.label.length→vT D s w<D.label.length
 | [],_,hs=>hs
 | b::w,_,hs=>h.vT w (h.goI hs b).2.2.2
theorem rE.SQ{D:bC}{s:Nat}(hs:s<D.label.length):labS D s=D.label[s]:=by
 unfold labS;rw[List.getD_eq_getElem?_getD,List.getElem?_eq_getElem hs];rfl
def backTo(t:Nat)(r:List Int)(s:Nat):List Nat:=(r.filter (fun u=>u==(t:Int))).map fun _=>s
def nC(t:Nat):List (List Int)→Nat→List Nat
 | [],_=>[]
 | r::l,s=>backTo t r s++nC t l (s+1)
def vU(D:bC)(t:Nat):List Nat:=nC t D.next 0
def iF:List Int→Nat→List Nat
 | [],_=>[]
 | k::l,s=>if k=0 then iF l (s+1) else s::iF l (s+1)
def nU(D:bC):List Nat:=iF D.label 0
theorem XU{t s x:Nat}{r:List Int}:x∈backTo t r s↔x=s∧(t:Int)∈r:=by
 unfold backTo
 rw[List.mem_map]
 simp only[List.mem_filter,beq_iff_eq]
 constructor
 ·rintro⟨u,⟨h1,rfl⟩,rfl⟩;exact⟨rfl,h1⟩
 ·rintro⟨rfl,h⟩;exact⟨_,⟨h,rfl⟩,rfl⟩
theorem OV{t x:Nat}:∀ {l:List (List Int)} {s:Nat},x∈nC t l s↔∃ i,∃ h:i<l.length,x=s+i∧(t:Int)∈l[i]
 | [],s=>by simp[nC]
 | r::l,s=>by
  rw[nC,List.mem_append,XU,OV]
  constructor
  ·rintro(⟨rfl,h⟩ | ⟨i,h,rfl,h2⟩)
   ·exact⟨0,by simp,rfl,h⟩
   ·exact⟨i+1,by simpa using h,by omega,h2⟩
  ·rintro⟨i,h,rfl,h2⟩
   cases i with
   | zero=>exact .inl ⟨rfl,h2⟩
   | succ i=>exact .inr ⟨i,by simpa using h,by omega,h2⟩
theorem OW{x:Nat}:∀ {l:List Int} {s:Nat},x∈iF l s↔∃ i,∃ h:i<l.length,x=s+i∧l[i]≠0
 | [],s=>by simp[iF]
 | k::l,s=>by
  have hh:(x∈iF l (s+1))↔∃ i,∃ h:i+1<(k::l).length,x=s+(i+1)∧(k::l)[i+1]≠0:=by
   rw[OW]
   constructor
   ·rintro⟨i,h,rfl,h2⟩;exact⟨i,by simpa using h,by omega,h2⟩
   ·rintro⟨i,h,rfl,h2⟩;exact⟨i,by simpa using h,by omega,h2⟩
  rw[iF]
  by_cases hk:k=0
  ·rw[if_pos hk,hh]
   constructor
   ·rintro⟨i,h,e,h2⟩;exact⟨i+1,h,e,h2⟩
   ·rintro⟨i,h,e,h2⟩
    cases i with
    | zero=>exact absurd hk h2
    | succ i=>exact⟨i,h,e,h2⟩
  ·rw[if_neg hk,List.mem_cons,hh]
   constructor
   ·rintro(rfl | ⟨i,h,e,h2⟩)
    ·exact⟨0,by simp,rfl,hk⟩
    ·exact⟨i+1,h,e,h2⟩
   ·rintro⟨i,h,e,h2⟩
    cases i with
    | zero=>exact .inl e
    | succ i=>exact .inr ⟨i,h,e,h2⟩
theorem Gx:∀ (l:List Int) (s:Nat),(iF l s).Pairwise (· < ·)∧∀ x∈iF l s,s≤x
 | [],s=>⟨.nil,by simp[iF]⟩
 | k::l,s=>by
  obtain⟨h1,h2⟩:=Gx l (s+1)
  rw[iF]
  split
  ·exact⟨h1,fun x hx=>by have:=h2 x hx;omega⟩
  ·refine⟨List.Pairwise.cons (fun x hx=>by have:=h2 x hx;omega) h1,fun x hx=>?_⟩
   rcases List.mem_cons.1 hx with rfl | hx
   ·exact Nat.le_refl _
   ·have:=h2 x hx;omega
theorem CS(D:bC):(nU D).Nodup:=(Gx D.label 0).1.imp fun h=>Nat.ne_of_lt h
theorem yH{D:bC}{x:Nat}:x∈nU D↔x<D.label.length∧labS D x≠0:=by
 unfold nU
 rw[OW]
 constructor
 ·rintro⟨i,h,rfl,h2⟩
  rw[Nat.zero_add,rE.SQ h];exact⟨h,h2⟩
 ·rintro⟨h,h2⟩
  rw[rE.SQ h] at h2
  exact⟨x,h,(Nat.zero_add _).symm,h2⟩
theorem Gy{D:bC}(hw:rE D){t x:Nat}:x∈vU D t↔x<D.label.length∧∃ b:UInt8,oW D x b=t:=by
 unfold vU
 rw[OV]
 constructor
 ·rintro⟨i,h,rfl,h2⟩
  rw[Nat.zero_add]
  have hi:i<D.label.length:=by rw[←hw.nx];exact h
  refine⟨hi,?_⟩
  obtain⟨k,hk,e⟩:=List.mem_iff_getElem.1 h2
  obtain⟨b,hb,hob⟩:=hw.onto k (by have:=hw.NS _ (List.getElem_mem h);omega)
  refine⟨UInt8.ofNat b,?_⟩
  obtain⟨h1,h3,h4,_⟩:=hw.goI hi (UInt8.ofNat b)
  have hbn:(UInt8.ofNat b).toNat=b:=by rw[UInt8.toNat_ofNat'];omega
  have e2:D.next[i][D.of (UInt8.ofNat b).toNat]=D.next[i][k]:=by congr 1;rw[hbn,hob]
  rw[e2,e] at h4
  omega
 ·rintro⟨hx,b,rfl⟩
  obtain⟨h1,h2,h3,_⟩:=hw.goI hx b
  exact⟨x,h1,(Nat.zero_add _).symm,h3▸List.getElem_mem h2⟩
theorem LK{D:bC}(hw:rE D){e x:Nat}(he:e<D.label.length):Eo (vU D) e x↔x<D.label.length∧∃ w,vT D x w=e:=by
 constructor
 ·intro h
  induction h with
  | here=>exact⟨he,[],rfl⟩
  | on _ hu ih =>
   obtain⟨hx,b,rfl⟩:=(Gy hw).1 hu
   obtain⟨_,w,hw2⟩:=ih
   exact⟨hx,b::w,hw2⟩
 ·rintro⟨hx,w,hr⟩
  induction w generalizing x with
  | nil=>obtain rfl:x=e:=hr;exact .here _
  | cons b w ih =>
   obtain⟨_,_,_,h4⟩:=hw.goI hx b
   exact .on (ih h4 hr) ((Gy hw).2 ⟨hx,b,rfl⟩)
def Gz(D:bC):List Nat:=ny (vU D) D.label.length 0 (nU D)
theorem JD{D:bC}(hw:rE D)(x:Nat):∀ t∈vU D x,t<D.label.length:=fun _ ht=>((Gy hw).1 ht).1
theorem ac2{D:bC}(hw:rE D)(x:Nat):x∈Gz D↔x<D.label.length∧¬ BF D x:=by
 unfold Gz
 rw[aah (vU D) _ (fun x _=>JD hw x) _ (CS D) (fun x hx=>(yH.1 hx).1)]
 constructor
 ·rintro⟨e,he,hl⟩
  obtain⟨he1,he2⟩:=yH.1 he
  obtain⟨hx,w,hr⟩:=(LK hw he1).1 hl
  exact⟨hx,fun hd=>he2 (hr▸hd w)⟩
 ·rintro⟨hx,hd⟩
  obtain⟨w,hw2⟩:=Classical.not_forall.1 hd
  have hrl:=hw.vT w hx
  exact⟨_,yH.2 ⟨hrl,hw2⟩,(LK hw hrl).2 ⟨hx,w,rfl⟩⟩
theorem Es{D:bC}(hw:rE D):(Gz D).Nodup∧∀ x∈Gz D,x<D.label.length :=
 have h:=Ep (vU D) _ (fun x _=>JD hw x) D.label.length 0 (nU D) (CS D) (fun x hx=>(yH.1 hx).1) (by omega) (fun j hj=>absurd hj (Nat.not_lt_zero _))
 ⟨h.2.1,h.2.2.1⟩
end
end Go.Proofs.YtengfapcaaacaaaGreatDoor
