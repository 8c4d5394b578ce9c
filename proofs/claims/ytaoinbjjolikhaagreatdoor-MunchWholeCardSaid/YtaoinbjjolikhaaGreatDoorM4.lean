/- The texts of B4, in few letters (mini.py). -/
import Derived.Test.YtaoinbjjolikhaaGreatDoorM3
import Derived.ShutString
import Derived.Deep.Slices
import Derived.Test.YtaoinbjjolikhaaGreatDoorProg
set_option linter.unusedVariables false
set_option linter.unusedSimpArgs false
set_option maxHeartbeats 800000
set_option maxRecDepth 20000
namespace Go.Proofs.YtaoinbjjolikhaaGreatDoor
section
open Go.ChangeShapes Go.WideShapes Go.ChangeAt Go.RowKit Go.Deep
section
variable {H:Type} {enc:TypeId×Value→H} {P:Program} {w:World} {base:Nat} {spare:Nat→Bool} {held:Bool} {fuel:Nat} {t e:TypeId} {cs:List Value} {x:DataW H×List MemPlace}
theorem U3{n:Nat}{k:IntKind}(ht:P.underlying t=some (.array n e))(he:P.underlying e=some (.int k))(hc:P.cellsOf e=1)(hct:P.cellsOf t=n)(h:DataW.trod enc P w base spare held fuel t cs=some x) :
  ∃ zs:List Int,zs.length=n∧cs=zs.map (Value.int k)∧∀ z∈zs,(Lit.int k z).wf=true:=by
 obtain⟨xs,m,_,_,hl,hxl,hx⟩:=DataW.trod_array ht h
 rw[hct] at hl
 have key:∀ i,i<n→∃ z:Int,cs[i]?=some (.int k z)∧(Lit.int k z).wf=true:=fun i hi=>by
  have h1:=hx i hi
  rw[hc,Nat.mul_one,List.getElem?_eq_getElem (show i<xs.length by omega)] at h1
  obtain⟨z,h2,_,h3⟩:=DataW.trod_int he h1
  refine⟨z,?_,h3⟩
  have:=congrArg (fun l:List Value=>l[0]?) h2
  simpa using this
 obtain⟨f,hf⟩:=choose_lt key
 refine⟨(List.range n).map f,by simp,?_,fun z hz=>?_⟩
 ·apply List.ext_getElem?
  intro i
  by_cases hi:i<n
  ·rw[(hf i hi).1];simp[hi]
  ·rw[List.getElem?_eq_none (by omega),List.getElem?_eq_none (by simp;omega)]
 ·obtain⟨i,hi,rfl⟩:=List.mem_map.1 hz
  exact(hf i (by simpa using hi)).2
theorem wf_u8{z:Int}(h:(Lit.int .u8 z).wf=true):∃ n:Nat,z=(n:Int)∧n<256:=by
 have:0≤z∧z≤255:=by simpa [Lit.wf,IntKind.min,IntKind.max,IntKind.bits,IntKind.signed] using h
 exact⟨z.toNat,by omega,by omega⟩
theorem Zg(ht:P.underlying t=some (.array 256 e))(he:P.underlying e=some (.int .u8))(hc:P.cellsOf e=1)(hct:P.cellsOf t=256)(h:DataW.trod enc P w base spare held fuel t cs=some x) :
  ∃ f:Nat→Nat,cs=(aY f).toList∧∀ b,f b<256:=by
 obtain⟨zs,hl,rfl,hw⟩:=U3 ht he hc hct h
 have hb:∀ i,0≤zs.getD i 0∧zs.getD i 0<256:=fun i=>by
  by_cases hi:i<zs.length
  ·obtain⟨n,hn,hlt⟩:=wf_u8 (hw zs[i] (List.getElem_mem hi))
   simp only[List.getD,List.getElem?_eq_getElem hi,Option.getD_some,hn];omega
  ·simp[List.getD,List.getElem?_eq_none (show zs.length≤i by omega)]
 refine⟨fun i=>(zs.getD i 0).toNat,?_,fun b=>by have:=hb b;show(zs.getD b 0).toNat<256;omega⟩
 apply List.ext_getElem?
 intro i
 by_cases hi:i<256
 ·have:=dV (fun i=>(zs.getD i 0).toNat) i hi
  rw[←Array.getElem?_toList] at this
  rw[this]
  have h1:=hb i
  rw[List.getElem?_map]
  simp only[List.getD] at h1 ⊢
  rw[List.getElem?_eq_getElem (show i<zs.length by omega)] at h1 ⊢
  simp at h1 ⊢
  omega
 ·have h1:(aY fun i=>(zs.getD i 0).toNat).toList[i]?=none:=List.getElem?_eq_none (by rw[Array.length_toList,bf];omega)
  rw[h1,List.getElem?_eq_none (by simp;omega)]
theorem Eh{ts:TypeId}(hs:P.underlying ts=some (.slice e))(he:P.underlying e=some (.int .u8))(hc:P.cellsOf e=1)
  {a:Option Addr} {len cap:Nat} (h:DataW.trod enc P w base spare held fuel ts [.slice a len cap]=some x):∃ l:List Nat,len=l.length∧ak w (.slice a l.length cap) 1 gB l∧∀ x∈l,x<256:=by
 rcases open_slice1 hs hc h with⟨h0,_⟩ | ⟨a',len',cap',m,n,V,D,Pl,h0,_,hle,hm,hmm,_,hx⟩
 ·simp at h0
  obtain⟨rfl,rfl,rfl⟩:=h0
  exact⟨[],rfl,⟨none,0,0,0,rfl,Nat.le_refl _,by simp[maxLen],.inr ⟨rfl,fun _=>rfl⟩,fun i hi=>by simp at hi⟩,by simp⟩
 ·simp at h0
  obtain⟨rfl,rfl,rfl⟩:=h0
  have hlm:len≤m:=by rw[hmm];split <;> omega
  have key:∀ i,i<len→∃ y:Nat,w.cell? (a'.add i)=some (.int .u8 y)∧y<256:=fun i hi=>by
   obtain⟨h1,h2⟩:=hx i (by omega)
   obtain⟨z,h3,_,h4⟩:=DataW.trod_int he h2
   obtain⟨y,rfl,hy⟩:=wf_u8 h4
   exact⟨y,by rw[h1];simpa using h3,hy⟩
  obtain⟨f,hf⟩:=choose_lt key
  have hspot:0<len→a'.spot=none:=fun h0=>by
   have:=World.cell?_spot (hf 0 h0).1
   simpa [Addr.add] using this
  obtain⟨b,o,spot⟩:=a'
  refine⟨(List.range len).map f,by simp,⟨some ⟨b,o,spot⟩,b,o,cap,by simp,by simpa using hle,hm,?_,fun i hi j u hu=>?_⟩,fun y hy=>?_⟩
  ·by_cases h0:len=0
   ·exact .inr ⟨by simp[h0],fun h=>by cases h⟩
   ·have h1:=hspot (by omega)
    simp only at h1
    exact .inl (by rw[h1])
  ·have hi':i<len:=by simpa using hi
   have:=(hf i hi').1
   have hs2:spot=none:=hspot (by omega)
   subst hs2
   rw[Addr.add_mid] at this
   have hj:j=0:=by have:=(List.getElem?_eq_some_iff.1 hu).1;simpa using this
   subst hj
   have e:gB ((List.range len).map f)[i]=gB (f i):=by simp
   rw[e] at hu
   simp at hu
   rw[←hu,Nat.mul_one,Nat.add_zero];exact this
  ·obtain⟨i,hi,rfl⟩:=List.mem_map.1 hy
   exact(hf i (by simpa using hi)).2
end
end
section
open Go.ChangeShapes Go.WideShapes Go.ChangeAt Go.RowKit Go.Deep
inductive Tr where
 | mk (k:Int) (s:au) (kids:List Tr) (lo hi:Int)
inductive Vt where
 | mk (k:Int) (s:au) (a:Option Addr) (cap:Nat) (kids:List Vt) (lo hi:Int)
def Vt.tr:Vt→Tr
 | .mk k s _ _ kids lo hi=>.mk k s (kids.map Vt.tr) lo hi
abbrev aF(k:Int)(s:au)(a:Option Addr)(n cap:Nat)(lo hi:Int):List Value :=
 [.int .i64 k,.int .u64 (word s 0:Nat),.int .u64 (word s 1:Nat),.int .u64 (word s 2:Nat),.int .u64 (word s 3:Nat),.slice a n cap,.int .i64 lo,.int .i64 hi]
def Vt.cells:Vt→List Value
 | .mk k s a cap kids lo hi=>aF k s a kids.length cap lo hi
def Tr.kids:Tr→List Tr
 | .mk _ _ kids _ _=>kids
theorem Vt.bM(V:Vt):V.cells.length=8:=by cases V;rfl
theorem Vt.cells_one(V:Vt):∀ u∈V.cells,u.oneCell'=true:=by
 obtain⟨k,s,a,cap,kids,lo,hi⟩:=V
 intro u hu
 simp[Vt.cells] at hu
 rcases hu with rfl | rfl | rfl | rfl | rfl | rfl | rfl | rfl <;> rfl
abbrev I64(z:Int):Prop:=-9223372036854775808≤z∧z≤9223372036854775807
inductive Lies (w:World):Vt→Prop
 | mk (k:Int) (s:au) (a:Option Addr) (cap:Nat) (kids:List Vt) (lo hi:Int) (hk:I64 k) (hlo:I64 lo) (hhi:I64 hi)
   (hs:ak w (.slice a kids.length cap) 8 Vt.cells kids) (hkids:∀ i (h:i<kids.length),Lies w kids[i]):Lies w (.mk k s a cap kids lo hi)
theorem Lies.kept{w w':World}{V:Vt}(h:Lies w V)(hb:Below w.heap.size w w'):Lies w' V:=by
 induction h with
 | mk k s a cap kids lo hi hk hlo hhi hs _ ih=>exact .mk k s a cap kids lo hi hk hlo hhi (hs.kept hb) ih
theorem Lies.open{w:World}{k:Int}{s:au}{a:Option Addr}{cap:Nat}{kids:List Vt}{lo hi:Int}(h:Lies w (.mk k s a cap kids lo hi)) :
  I64 k∧I64 lo∧I64 hi∧ak w (.slice a kids.length cap) 8 Vt.cells kids∧∀ i (h:i<kids.length),Lies w kids[i]:=by
 cases h with
 | mk _ _ _ _ _ _ _ hk hlo hhi hs hkids=>exact⟨hk,hlo,hhi,hs,hkids⟩
theorem Lies.drew{w:World}{V:Vt}(h:Lies w V):Lies w.drew V:=by
 induction h with
 | mk k s a cap kids lo hi hk hlo hhi hs _ ih=>exact .mk k s a cap kids lo hi hk hlo hhi hs ih
theorem Vt.ind{M:Vt→Prop}(h:∀ k s a cap kids lo hi,(∀ i (h:i<kids.length),M kids[i])→M (.mk k s a cap kids lo hi)):∀ V,M V
 | .mk k s a cap kids lo hi=>h k s a cap kids lo hi (fun i hi=>Vt.ind h kids[i])
termination_by V=>SizeOf.sizeOf V
decreasing_by
 have:=List.sizeOf_lt_of_mem (List.getElem_mem hi)
 simp only[Vt.mk.sizeOf_spec]
 omega
theorem Tr.ind{M:Tr→Prop}(h:∀ k s kids lo hi,(∀ i (h:i<kids.length),M kids[i])→M (.mk k s kids lo hi)):∀ V,M V
 | .mk k s kids lo hi=>h k s kids lo hi (fun i hi=>Tr.ind h kids[i])
termination_by V=>SizeOf.sizeOf V
decreasing_by
 have:=List.sizeOf_lt_of_mem (List.getElem_mem hi)
 simp only[Tr.mk.sizeOf_spec]
 omega
theorem Vt.jP(k:Int)(s:au)(a:Option Addr)(cap:Nat)(kids:List Vt)(lo hi:Int):(Vt.mk k s a cap kids lo hi).tr=.mk k s (kids.map Vt.tr) lo hi:=by rw[Vt.tr]
mutual
def eqT:Tr→Tr→Bool
 | .mk k s l lo hi,.mk k' s' l' lo' hi'=>decide (k=k')&&decide (s=s')&&decide (lo=lo')&&decide (hi=hi')&&agK l l'
def agK:List Tr→List Tr→Bool
 | [],[]=>true
 | a::l,b::m=>eqT a b&&agK l m
 | [],_::_=>false
 | _::_,[]=>false
end
theorem qW{w:World}{b o:Nat}{k:Int}{s:au}{a:Option Addr}{n cap:Nat}{lo hi:Int}(h:∀ j u,(aF k s a n cap lo hi)[j]?=some u→w.cell? ⟨b,o+j,none⟩=some u) :
  w.cell? ⟨b,o,none⟩=some (.int .i64 k)∧w.cell? ⟨b,o+1,none⟩=some (.int .u64 (word s 0:Nat))∧w.cell? ⟨b,o+2,none⟩=some (.int .u64 (word s 1:Nat)) ∧
  w.cell? ⟨b,o+3,none⟩=some (.int .u64 (word s 2:Nat))∧w.cell? ⟨b,o+4,none⟩=some (.int .u64 (word s 3:Nat))∧w.cell? ⟨b,o+5,none⟩=some (.slice a n cap) ∧
  w.cell? ⟨b,o+6,none⟩=some (.int .i64 lo)∧w.cell? ⟨b,o+7,none⟩=some (.int .i64 hi) :=
 ⟨h 0 _ rfl,h 1 _ rfl,h 2 _ rfl,h 3 _ rfl,h 4 _ rfl,h 5 _ rfl,h 6 _ rfl,h 7 _ rfl⟩
theorem Box.node{w:World}{b E:Nat}{k:Int}{s:au}{a:Option Addr}{n cap:Nat}{lo hi:Int}(h:Box w b (aF k s a n cap lo hi).toArray E) :
  w.cell? ⟨b,0,none⟩=some (.int .i64 k)∧w.cell? ⟨b,1,none⟩=some (.int .u64 (word s 0:Nat))∧w.cell? ⟨b,2,none⟩=some (.int .u64 (word s 1:Nat)) ∧
  w.cell? ⟨b,3,none⟩=some (.int .u64 (word s 2:Nat))∧w.cell? ⟨b,4,none⟩=some (.int .u64 (word s 3:Nat))∧w.cell? ⟨b,5,none⟩=some (.slice a n cap) ∧
  w.cell? ⟨b,6,none⟩=some (.int .i64 lo)∧w.cell? ⟨b,7,none⟩=some (.int .i64 hi) :=
 ⟨h.cell 0,h.cell 1,h.cell 2,h.cell 3,h.cell 4,h.cell 5,h.cell 6,h.cell 7⟩
theorem ak.kids{w:World}{a:Option Addr}{cap:Nat}{kids:List Vt}(h:ak w (.slice a kids.length cap) 8 Vt.cells kids) :
  ∃ b o,kids.length≤cap∧cap≤9223372036854775807∧(∀ i,i<kids.length→a=some ⟨b,o,none⟩)∧(0<kids.length→b<w.heap.size) ∧
   ∀ i (h:i<kids.length) (w':World),Below w.heap.size w w'→∀ j u,(kids[i].cells)[j]?=some u→w'.cell? ⟨b,o+i*8+j,none⟩=some u:=by
 obtain⟨b,o,_,h2,h3,h4,h5⟩:=h.open
 refine⟨b,o,h2,h3,h4,fun h0=>?_,fun i hi w' hB j u hu=>?_⟩
 ·have:0<(kids[0].cells).length:=by rw[Vt.bM];omega
  exact World.block_lt_of_cell? w _ (h5 0 h0 0 _ (List.getElem?_eq_getElem this))
 ·have:=h5 i hi j u hu
  rw[hB.cell (World.block_lt_of_cell? w _ this)];exact this
structure anz(P:Program)(tN tK tS tU tL tI:TypeId)(fs:Array Field):Prop where
 node:P.underlying tN=some (.struct fs)
 agL:fs.map (fun f=>(f.type,f.offset))=#[(tK,0),(tS,1),(tL,5),(tI,6),(tI,7)]
 kind:P.underlying tK=some (.int .i64)
 set:P.underlying tS=some (.array 4 tU)
 word:P.underlying tU=some (.int .u64)
 list:P.underlying tL=some (.slice tN)
 int:P.underlying tI=some (.int .i64)
 cN:P.cellsOf tN=8
 cK:P.cellsOf tK=1
 cS:P.cellsOf tS=4
 cU:P.cellsOf tU=1
 cL:P.cellsOf tL=1
 cI:P.cellsOf tI=1
section
variable {H:Type} {enc:TypeId×Value→H} {P:Program} {w:World} {base:Nat} {spare:Nat→Bool} {held:Bool} {tN tK tS tU tL tI:TypeId} {fs:Array Field}
end
end
section
open Go.RowKit
inductive On (S:Nat→Prop):Vt→Prop
 | mk (k:Int) (s:au) (a:Option Addr) (cap:Nat) (kids:List Vt) (lo hi:Int) (h:0<kids.length→∀ ad,a=some ad→S ad.block) (hk:∀ i (h:i<kids.length),On S kids[i]):On S (.mk k s a cap kids lo hi)
theorem On.mono{S S':Nat→Prop}{V:Vt}(h:On S V)(hs:∀ b,S b→S' b):On S' V:=by
 induction h with
 | mk k s a cap kids lo hi h _ ih=>exact .mk k s a cap kids lo hi (fun h0 ad ha=>hs _ (h h0 ad ha)) ih
theorem On.and{S S':Nat→Prop}{V:Vt}(h:On S V)(h':On S' V):On (fun b=>S b∧S' b) V:=by
 induction h with
 | mk k s a cap kids lo hi h _ ih =>
  cases h' with
  | mk _ _ _ _ _ _ _ h2 k2=>exact .mk k s a cap kids lo hi (fun h0 ad ha=>⟨h h0 ad ha,h2 h0 ad ha⟩) fun i hi=>ih i hi (k2 i hi)
theorem ak.blk{α:Type}{w:World}{ad:Addr}{n cap size:Nat}{enc:α→List Value}{xs:List α}(h:ak w (.slice (some ad) n cap) size enc xs)(h0:0<xs.length)(he:0<(enc xs[0]).length):ad.block<w.heap.size:=by
 obtain⟨b,o,_,_,_,ha,hx⟩:=h.open
 obtain rfl:=Option.some.inj (ha 0 h0)
 have:=World.block_lt_of_cell? w _ (hx 0 h0 0 _ (List.getElem?_eq_getElem he))
 exact this
theorem Lies.on{w:World}{V:Vt}(h:Lies w V):On (fun b=>b<w.heap.size) V:=by
 induction h with
 | mk k s a cap kids lo hi _ _ _ hs _ ih=>exact .mk k s a cap kids lo hi (fun h0 ad ha=>by subst ha;exact hs.blk h0 (by rw[Vt.bM];decide)) ih
theorem ak.eY{α:Type}{w w':World}{a:Option Addr}{n cap size:Nat}{enc:α→List Value}{xs:List α}(h:ak w (.slice a n cap) size enc xs)(hb:0<xs.length→∀ ad,a=some ad→w'.heap[ad.block]?=w.heap[ad.block]?):ak w' (.slice a n cap) size enc xs:=by
 obtain⟨a',b,o,cap',hv,hl,hc,ha,hx⟩:=h
 obtain⟨rfl,rfl,rfl⟩:=Value.slice.inj hv
 refine⟨a,b,o,cap,rfl,hl,hc,ha,fun i hi j u hu=>?_⟩
 rcases ha with rfl | ⟨rfl,_⟩
 ·rw[←hx i hi j u hu]
  exact World.cell?_of_block (a:=⟨b,o+i*size+j,none⟩) (hb (by omega) ⟨b,o,none⟩ rfl)
 ·simp at hi
theorem Lies.eY{w w':World}{S:Nat→Prop}{V:Vt}(h:Lies w V)(ho:On S V)(hb:∀ b,S b→w'.heap[b]?=w.heap[b]?):Lies w' V:=by
 induction h with
 | mk k s a cap kids lo hi h1 h2 h3 hs _ ih =>
  cases ho with
  | mk _ _ _ _ _ _ _ g1 g2=>exact .mk k s a cap kids lo hi h1 h2 h3 (hs.eY fun h0 ad ha=>hb _ (g1 h0 ad ha)) fun i hi=>ih i hi (g2 i hi)
theorem Ei:gq Vt.cells 8:=⟨Vt.bM,Vt.cells_one⟩
def vI(w:World)(base E:Nat)(v:Value)(vs:List Vt):Prop :=
 Own w base E 8 Vt.cells v vs∧(∀ i (h:i<vs.length),Lies w vs[i])∧∀ i (h:i<vs.length),On (fun b=>v.ownBlock≠some b) vs[i]
theorem vI.kept{w w':World}{base E:Nat}{v:Value}{vs:List Vt}(h:vI w base E v vs)(hb:Below w.heap.size w w'):vI w' base E v vs :=
 ⟨h.1.kept hb,fun i hi=>(h.2.1 i hi).kept hb,h.2.2⟩
theorem vI.nil(w:World)(base E:Nat):vI w base E (.slice none 0 0) []:=⟨Own.nil _ _ _ _ _,fun i h=>by simp at h,fun i h=>by simp at h⟩
theorem vI.appended{w w':World}{base E:Nat}{v v':Value}{vs:List Vt}{y:Vt}(h:vI w base E v vs)(hy:Lies w y)(hoy:On (fun b=>v.ownBlock≠some b) y)
  (ho:Own w' base E 8 Vt.cells v' (vs++[y])) (hg:w.grownBy w' v.ownBlock) (hb:v'.ownBlock=v.ownBlock∨v'.ownBlock=some w.heap.size):vI w' base E v' (vs++[y]):=by
 have key:∀ V:Vt,Lies w V→On (fun b=>v.ownBlock≠some b) V→Lies w' V∧On (fun b=>v'.ownBlock≠some b) V:=fun V h1 h2=>by
  have h3:=h2.and h1.on
  refine⟨h1.eY h3 fun b ⟨hb1,hb2⟩=>hg.block b hb2 (fun e=>hb1 e.symm),h3.mono fun b ⟨hb1,hb2⟩=>?_⟩
  rcases hb with hb | hb
  ·rw[hb];exact hb1
  ·rw[hb];intro e;have:=Option.some.inj e;omega
 refine⟨ho,fun i hi=>?_,fun i hi=>?_⟩
 ·by_cases hlt:i<vs.length
  ·rw[List.getElem_append_left hlt];exact(key _ (h.2.1 i hlt) (h.2.2 i hlt)).1
  ·have:i=vs.length:=by simp at hi;omega
   subst this;simpa using (key y hy hoy).1
 ·by_cases hlt:i<vs.length
  ·rw[List.getElem_append_left hlt];exact(key _ (h.2.1 i hlt) (h.2.2 i hlt)).2
  ·have:i=vs.length:=by simp at hi;omega
   subst this;simpa using (key y hy hoy).2
theorem vI.slice{w:World}{base E:Nat}{a:Option Addr}{n cap:Nat}{vs:List Vt}(h:vI w base E (.slice a n cap) vs):ak w (.slice a n cap) 8 Vt.cells vs:=h.1.slice Ei
def Q9(w:World)(A:Tr)(e:Ending)(w':World):Prop :=
 ∃ V:Vt,e=.returned (.agg V.cells.toArray)∧V.tr=A∧Lies w' V∧On (fun b=>w.heap.size≤b) V∧Below w.heap.size w w'
def agM(w:World)(A:Tr)(e:Ending)(w':World):Prop :=
 ∃ V:Vt,e=.returned (.agg V.cells.toArray)∧V.tr=A∧Lies w' V∧Below w.heap.size w w'
theorem Q9.open{w w':World}{A:Tr}{e:Ending}(h:Q9 w A e w'):∃ (k:Int) (s:au) (a:Option Addr) (cap:Nat) (kids:List Vt) (lo hi:Int),e=.returned (.agg (aF k s a kids.length cap lo hi).toArray) ∧
  (Vt.mk k s a cap kids lo hi).tr=A∧Lies w' (.mk k s a cap kids lo hi)∧On (fun b=>w.heap.size≤b) (.mk k s a cap kids lo hi)∧Below w.heap.size w w':=by
 obtain⟨⟨k,s,a,cap,kids,lo,hi⟩,h1,h2,h3,h4,h5⟩:=h
 exact⟨k,s,a,cap,kids,lo,hi,h1,h2,h3,h4,h5⟩
theorem agM.open{w w':World}{A:Tr}{e:Ending}(h:agM w A e w'):∃ (k:Int) (s:au) (a:Option Addr) (cap:Nat) (kids:List Vt) (lo hi:Int),e=.returned (.agg (aF k s a kids.length cap lo hi).toArray) ∧
  (Vt.mk k s a cap kids lo hi).tr=A∧Lies w' (.mk k s a cap kids lo hi)∧Below w.heap.size w w':=by
 obtain⟨⟨k,s,a,cap,kids,lo,hi⟩,h1,h2,h3,h5⟩:=h
 exact⟨k,s,a,cap,kids,lo,hi,h1,h2,h3,h5⟩
def BA(B:Nat)(w w':World):Prop:=∀ b,B≤b→w'.heap[b]?=w.heap[b]?
theorem BA.refl(B:Nat)(w:World):BA B w w:=fun _ _=>rfl
theorem BA.set{B:Nat}{w w':World}(h:BA B w w'){a:Addr}(ha:a.block<B)(v:Value):BA B w (w'.setCell a v):=fun b hb=>(heap_setCell_other w' a b v (by omega)).trans (h b hb)
theorem Lies.above{w w':World}{B:Nat}{V:Vt}(h:Lies w V)(ho:On (fun b=>B≤b) V)(hb:BA B w w'):Lies w' V:=h.eY ho hb
theorem Own.above{α:Type}{w w':World}{base B E size:Nat}{enc:α→List Value}{v:Value}{xs:List α}(h:Own w base E size enc v xs)(hB:B≤base)(hb:BA B w w'):Own w' base E size enc v xs:=by
 obtain⟨a,cap,hv,hle,hm,hh⟩:=h
 refine⟨a,cap,hv,hle,hm,?_⟩
 rcases hh with hh | ⟨g,cur,ha,hbg,hg,hr⟩
 ·exact .inl hh
 ·exact .inr ⟨g,cur,ha,hbg,(hb g (by omega)).trans hg,hr⟩
theorem vI.node{w w':World}{base B E:Nat}{a:Option Addr}{cap:Nat}{vs:List Vt}(h:vI w base E (.slice a vs.length cap) vs)(hon:∀ i (h:i<vs.length),On (fun b=>B≤b) vs[i])(hB:B≤base)(hb:BA B w w')
  (k:Int) (s:au) (lo hi:Int) (hk:I64 k) (hlo:I64 lo) (hhi:I64 hi):Lies w' (.mk k s a cap vs lo hi)∧On (fun b=>B≤b) (.mk k s a cap vs lo hi):=by
 refine⟨.mk k s a cap vs lo hi hk hlo hhi ((h.1.above hB hb).slice Ei) fun i hi=>(h.2.1 i hi).above (hon i hi) hb,.mk k s a cap vs lo hi (fun h0 ad ha=>?_) hon⟩
 obtain⟨g,hg,hbg,_⟩:=h.1.addr h0
 rw[hg] at ha
 obtain rfl:=Option.some.inj ha
 exact Nat.le_trans hB hbg
theorem Box.vJ{w:World}{b E:Nat}{c:Array Value}(h:Box w b c E):w.frozen? ⟨b,0,none⟩=false∧w.frozen? ⟨b,1,none⟩=false∧w.frozen? ⟨b,2,none⟩=false∧w.frozen? ⟨b,3,none⟩=false∧w.frozen? ⟨b,4,none⟩=false∧w.frozen? ⟨b,5,none⟩=false∧w.frozen? ⟨b,6,none⟩=false∧w.frozen? ⟨b,7,none⟩=false :=
 ⟨h.free 0,h.free 1,h.free 2,h.free 3,h.free 4,h.free 5,h.free 6,h.free 7⟩
mutual
def sizeT:Tr→Nat
 | .mk _ _ l _ _=>1+pJ l
def pJ:List Tr→Nat
 | []=>0
 | a::l=>sizeT a+pJ l
end
theorem Zh(A:Tr):1≤sizeT A:=by cases A;simp[sizeT]
theorem Lc(l:List Tr):l.length≤pJ l:=by
 induction l with
 | nil=>simp[pJ]
 | cons a l ih=>have:=Zh a;simp[pJ];omega
theorem Xv(l:List Tr)(i:Nat)(h:i<l.length):sizeT l[i]≤pJ l:=by
 induction l generalizing i with
 | nil=>simp at h
 | cons a l ih =>
  cases i with
  | zero=>simp[pJ]
  | succ i=>have:=ih i (by simpa using h);simp[pJ];omega
end
section
open Go.RowKit
structure Nf where
 states:Nat
 links:List (Nat×Nat)
 edges:List (Nat×au×Nat)
 accept:List Nat
def Nf.state(y:Nf)(k:Nat):Nf:={ y with states:=y.states+1,accept:=y.accept++[k] }
def Nf.link(y:Nf)(a b:Nat):Nf:={ y with links:=y.links++[(a,b)] }
def Nf.edge(y:Nf)(a:Nat)(s:au)(b:Nat):Nf:={ y with edges:=y.edges++[(a,s,b)] }
def aH:Nat:=1099511627776
def addN(a b:Nat):Nat:=if aH - a<b then aH else a+b
def mulN(a b:Nat):Nat:=if a=0∨b=0 then 0 else if aH / b<a then aH else a*b
mutual
def bG:Tr→Nat
 | .mk k _ kids lo hi =>
  if k=2∨k=4 then bW 0 kids
  else if k=9 then
   (let n:=bW 0 kids
    if n=0 then 0 else if hi<0 then addN (addN (mulN lo.toNat n) n) 1 else if lo<hi then addN (addN (mulN lo.toNat n) (mulN (hi - lo).toNat n)) 1 else mulN lo.toNat n)
  else addN (bW 0 kids) 1
def bW:Nat→List Tr→Nat
 | acc,[]=>acc
 | acc,x::l=>bW (addN acc (bG x)) l
end
def bY(f:Nf×Nat→Nf×Nat):Nat→Nf×Nat→Nf×Nat
 | 0,x=>x
 | n+1,x=>bY f n (f x)
def sK(plus:Bool)(f:Nf×Nat→Nf×Nat)(z:Nf×Nat):Nf×Nat :=
 let r:=f ((z.1.state 0).link z.2 z.1.states,z.1.states)
 (r.1.link r.2 z.1.states,if plus then r.2 else z.1.states)
mutual
def bH:Tr→Nf×Nat→Nf×Nat
 | .mk k s kids lo hi,(y,at') =>
  if k=4 then jV kids (y,at')
  else if k=5 then
   (let r:=fQ kids y at' []
    (r.2.foldl (fun z e=>z.link e r.1.states) (r.1.state 0),r.1.states))
  else if k=6∨k=7 then sK (k=7) (nN kids) (y,at')
  else if k=8 then
   (let r:=nN kids (y,at')
    (((r.1.state 0).link r.2 r.1.states).link at' r.1.states,r.1.states))
  else if k=9 then
   (if bW 0 kids=0 then (y,at') else
    let r:=bY (nN kids) lo.toNat (y,at')
    if hi<0 then sK false (nN kids) r
    else if hi=lo then r
    else
     let e:=bY (fun z=>nN kids (z.1.link z.2 r.1.states,z.2)) (hi - lo).toNat (r.1.state 0,r.2)
     (e.1.link e.2 r.1.states,r.1.states))
  else if k=2 then (y,at')
  else if k=3 then ((y.state 0).edge at' s y.states,y.states)
  else (y.state 0,y.states)
termination_by structural x=>x
def nN:List Tr→Nf×Nat→Nf×Nat
 | [],z=>z
 | x::_,z=>bH x z
termination_by structural x=>x
def jV:List Tr→Nf×Nat→Nf×Nat
 | [],z=>z
 | x::l,z=>jV l (bH x z)
termination_by structural x=>x
def fQ:List Tr→Nf→Nat→List Nat→Nf×List Nat
 | [],y,_,ends=>(y,ends)
 | x::l,y,at',ends=>fQ l (bH x (y,at')).1 at' (ends++[(bH x (y,at')).2])
termination_by structural x=>x
end
end
section
open Go.RowKit
def Nf.small(N:Nf):Prop:=N.links.length≤1099511627776∧N.edges.length≤1099511627776∧N.accept.length≤1099511627776
def Nf.le(A B:Nf):Prop:=A.links.length≤B.links.length∧A.edges.length≤B.edges.length∧A.accept.length≤B.accept.length
theorem Nf.le.refl(A:Nf):A.le A:=⟨Nat.le_refl _,Nat.le_refl _,Nat.le_refl _⟩
theorem Nf.le.trans{A B C:Nf}(h:A.le B)(k:B.le C):A.le C:=⟨Nat.le_trans h.1 k.1,Nat.le_trans h.2.1 k.2.1,Nat.le_trans h.2.2 k.2.2⟩
theorem Nf.le.small{A B:Nf}(h:A.le B)(k:B.small):A.small:=⟨Nat.le_trans h.1 k.1,Nat.le_trans h.2.1 k.2.1,Nat.le_trans h.2.2 k.2.2⟩
theorem Nf.iR(A:Nf)(k:Nat):A.le (A.state k):=⟨Nat.le_refl _,Nat.le_refl _,by simp[Nf.state]⟩
theorem Nf.iW(A:Nf)(a b:Nat):A.le (A.link a b):=⟨by simp[Nf.link],Nat.le_refl _,Nat.le_refl _⟩
theorem Nf.Oa(A:Nf)(a:Nat)(s:au)(b:Nat):A.le (A.edge a s b):=⟨Nat.le_refl _,by simp[Nf.edge],Nat.le_refl _⟩
theorem BD(f:Nf×Nat→Nf×Nat)(hf:∀ z:Nf×Nat,z.1.le (f z).1):∀ (n:Nat) (z:Nf×Nat),z.1.le (bY f n z).1
 | 0,z=>by rw[bY];exact .refl _
 | n+1,z=>by rw[bY];exact(hf z).trans (BD f hf n _)
theorem tX(f:Nf×Nat→Nf×Nat):∀ n z,bY f (n+1) z=f (bY f n z)
 | 0,z=>by rw[bY,bY,bY]
 | n+1,z=>by rw[bY,tX f n,←bY]
theorem JA(p:Bool)(f:Nf×Nat→Nf×Nat)(hf:∀ z:Nf×Nat,z.1.le (f z).1)(z:Nf×Nat):z.1.le (sK p f z).1:=by
 unfold sK
 dsimp only
 exact((Nf.iR z.1 0).trans (Nf.iW _ z.2 z.1.states)).trans ((hf ((z.1.state 0).link z.2 z.1.states,z.1.states)).trans (Nf.iW _ _ _))
theorem JB(l:List Nat)(b:Nat):∀ (N:Nf),N.le (l.foldl (fun z e=>z.link e b) N):=by
 induction l with
 | nil=>intro N;exact .refl _
 | cons e l ih=>intro N;rw[List.foldl_cons];exact(Nf.iW _ _ _).trans (ih _)
mutual
theorem oC:∀ (t:Tr) (z:Nf×Nat),z.1.le (bH t z).1
 | .mk k s kids lo hi,(y,f)=>by
  rw[bH]
  split
  ·exact Ob kids _
  split
  ·exact(Oc kids y f []).trans ((Nf.iR _ _).trans (JB _ _ _))
  split
  ·exact JA _ _ (fun z=>sN kids z) _
  split
  ·exact(sN kids _).trans ((Nf.iR _ _).trans ((Nf.iW _ _ _).trans (Nf.iW _ _ _)))
  split
  ·split
   ·exact .refl _
   ·dsimp only
    have h1:=BD (nN kids) (fun z=>sN kids z) lo.toNat (y,f)
    split
    ·exact h1.trans (JA _ _ (fun z=>sN kids z) _)
    ·split
     ·exact h1
     ·exact h1.trans ((Nf.iR _ 0).trans ((BD _ (fun z=>(Nf.iW _ _ _).trans (sN kids (_,_))) _ (_,_)).trans (Nf.iW _ _ _)))
  split
  ·exact .refl _
  split
  ·exact(Nf.iR _ 0).trans (Nf.Oa _ _ _ _)
  ·exact Nf.iR _ 0
theorem sN:∀ (l:List Tr) (z:Nf×Nat),z.1.le (nN l z).1
 | [],z=>by rw[nN];exact .refl _
 | x::_,z=>by rw[nN];exact oC x z
theorem Ob:∀ (l:List Tr) (z:Nf×Nat),z.1.le (jV l z).1
 | [],z=>by rw[jV];exact .refl _
 | x::l,z=>by rw[jV];exact(oC x z).trans (Ob l _)
theorem Oc:∀ (l:List Tr) (y:Nf) (f:Nat) (ends:List Nat),y.le (fQ l y f ends).1
 | [],y,_,_=>by rw[fQ];exact .refl _
 | x::l,y,f,ends=>by rw[fQ];exact(oC x (y,f)).trans (Oc l _ f _)
end
theorem CP:∀ (l m:List Tr) (z:Nf×Nat),jV (l++m) z=jV m (jV l z)
 | [],m,z=>by rw[List.nil_append,jV]
 | x::l,m,z=>by rw[List.cons_append,jV,jV,CP l m]
theorem Zi(l:List Tr)(k:Nat)(h:k<l.length)(z:Nf×Nat):jV (l.take (k+1)) z=bH l[k] (jV (l.take k) z):=by
 rw[List.take_succ_eq_append_getElem h,CP,jV,jV]
theorem Rf(l:List Tr)(k:Nat)(z:Nf×Nat):(jV (l.take k) z).1.le (jV l z).1:=by
 conv=>rhs;rw[←List.take_append_drop k l]
 rw[CP];exact Ob _ _
theorem CQ:∀ (l m:List Tr) (y:Nf) (f:Nat) (ends:List Nat),fQ (l++m) y f ends=fQ m (fQ l y f ends).1 f (fQ l y f ends).2
 | [],m,y,f,ends=>by rw[List.nil_append,fQ]
 | x::l,m,y,f,ends=>by rw[List.cons_append,fQ,CQ l m,fQ]
theorem Zj(l:List Tr)(k:Nat)(h:k<l.length)(y:Nf)(f:Nat)(ends:List Nat) :
  fQ (l.take (k+1)) y f ends=((bH l[k] ((fQ (l.take k) y f ends).1,f)).1,(fQ (l.take k) y f ends).2++[(bH l[k] ((fQ (l.take k) y f ends).1,f)).2]):=by
 rw[List.take_succ_eq_append_getElem h,CQ,fQ,fQ]
theorem Rh(l:List Tr)(k:Nat)(y:Nf)(f:Nat)(ends:List Nat):(fQ (l.take k) y f ends).1.le (fQ l y f ends).1:=by
 conv=>rhs;rw[←List.take_append_drop k l]
 rw[CQ];exact Oc _ _ _ _
theorem JC:∀ (l:List Tr) (y:Nf) (f:Nat) (ends:List Nat),(fQ l y f ends).2.length=ends.length+l.length
 | [],y,f,ends=>by rw[fQ];rfl
 | x::l,y,f,ends=>by rw[fQ,JC l,List.length_append,List.length_cons];simp;omega
end
section
open Go.RowKit
def nY(z:Nf×Nat)(t:Tr):Nf×Nat:=(((bH t (z.1,0)).1.state (z.2+1)).link (bH t (z.1,0)).2 (bH t (z.1,0)).1.states,z.2+1)
def Ac:Nf:=(⟨0,[],[],[]⟩:Nf).state 0
def qX(l:List Tr):Nf×Nat:=l.foldl nY (Ac,0)
def tC(l:List Tr):Nf:=(qX l).1
theorem Ri(z:Nf×Nat)(t:Tr):z.1.le (nY z t).1:=(oC t (z.1,0)).trans ((Nf.iR _ _).trans (Nf.iW _ _ _))
theorem Rj:∀ (l:List Tr) (z:Nf×Nat),z.1.le (l.foldl nY z).1
 | [],_=>.refl _
 | x::l,z=>(Ri z x).trans (Rj l _)
theorem Zk(l:List Tr)(k:Nat)(h:k<l.length):qX (l.take (k+1))=nY (qX (l.take k)) l[k]:=by
 unfold qX;rw[List.take_succ_eq_append_getElem h,List.foldl_append];rfl
theorem Rk(l:List Tr)(k:Nat):(qX (l.take k)).1.le (qX l).1:=by
 unfold qX
 conv=>rhs;rw[←List.take_append_drop k l]
 rw[List.foldl_append];exact Rj _ _
theorem ace(l:List Tr):(qX l).2=l.length:=by
 have:∀ (l:List Tr) (z:Nf×Nat),(l.foldl nY z).2=z.2+l.length:=by
  intro l
  induction l with
  | nil=>intro z;rfl
  | cons x l ih=>intro z;rw[List.foldl_cons,ih,List.length_cons,nY];dsimp only;omega
 unfold qX;rw[this];simp
structure Nf.wf(N:Nf):Prop where
 st:N.states=N.accept.length
 links:∀ x∈N.links,x.1<N.states∧x.2<N.states
 edges:∀ x∈N.edges,x.1<N.states∧x.2.2<N.states
 accept:∀ x∈N.accept,x≤64
def Nf.ok(z:Nf×Nat):Prop:=z.1.wf∧z.2<z.1.states
theorem Nf.wf.state{N:Nf}(h:N.wf){k:Nat}(hk:k≤64):(N.state k).wf:=by
 refine⟨?_,fun x hx=>?_,fun x hx=>?_,fun x hx=>?_⟩
 ·simp[Nf.state,h.st]
 ·have:=h.links x hx;simp only[Nf.state];omega
 ·have:=h.edges x hx;simp only[Nf.state];omega
 ·rcases List.mem_append.1 hx with hx | hx
  ·exact h.accept x hx
  ·simp at hx;omega
theorem Nf.wf.link{N:Nf}(h:N.wf){a b:Nat}(ha:a<N.states)(hb:b<N.states):(N.link a b).wf:=by
 refine⟨h.st,fun x hx=>?_,h.edges,h.accept⟩
 rcases List.mem_append.1 hx with hx | hx
 ·exact h.links x hx
 ·simp at hx;subst hx;exact⟨ha,hb⟩
theorem Nf.wf.edge{N:Nf}(h:N.wf){a b:Nat}{s:au}(ha:a<N.states)(hb:b<N.states):(N.edge a s b).wf:=by
 refine⟨h.st,h.links,fun x hx=>?_,h.accept⟩
 rcases List.mem_append.1 hx with hx | hx
 ·exact h.edges x hx
 ·simp at hx;subst hx;exact⟨ha,hb⟩
theorem Nf.wf.yF{A B:Nf}(h:A.wf)(k:B.wf)(l:A.le B):A.states≤B.states:=by rw[h.st,k.st];exact l.2.2
theorem O6(f:Nf×Nat→Nf×Nat)(hf:∀ z,Nf.ok z→Nf.ok (f z)):∀ (n:Nat) (z:Nf×Nat),Nf.ok z→Nf.ok (bY f n z)
 | 0,z,h=>by rw[bY];exact h
 | n+1,z,h=>by rw[bY];exact O6 f hf n _ (hf z h)
theorem Rl(p:Bool)(f:Nf×Nat→Nf×Nat)(hf:∀ z,Nf.ok z→Nf.ok (f z))(hm:∀ z:Nf×Nat,z.1.le (f z).1)(z:Nf×Nat)(h:Nf.ok z):Nf.ok (sK p f z):=by
 unfold sK
 dsimp only
 have h0:((z.1.state 0).link z.2 z.1.states).wf:=(h.1.state (by omega)).link (by simp only[Nf.state];have:=h.2;omega) (by simp only[Nf.state];omega)
 have h1:=hf ((z.1.state 0).link z.2 z.1.states,z.1.states) ⟨h0,by simp only[Nf.state,Nf.link];omega⟩
 have h2:=h0.yF h1.1 (hm ((z.1.state 0).link z.2 z.1.states,z.1.states))
 generalize f ((z.1.state 0).link z.2 z.1.states,z.1.states)=A at *
 simp only[Nf.state,Nf.link] at h2
 refine⟨h1.1.link h1.2 (by omega),?_⟩
 show(if p=true then A.2 else z.1.states)<A.1.states
 split
 ·exact h1.2
 ·omega
theorem acf(l:List Nat)(b:Nat):∀ (N:Nf),N.wf→b<N.states→(∀ x∈l,x<N.states)→(l.foldl (fun z e=>z.link e b) N).wf∧(l.foldl (fun z e=>z.link e b) N).states=N.states:=by
 induction l with
 | nil=>intro N h _ _;exact⟨h,rfl⟩
 | cons e l ih =>
  intro N h hb hl
  rw[List.foldl_cons]
  exact ih (N.link e b) (h.link (hl e (by simp)) hb) hb fun x hx=>hl x (by simp[hx])
mutual
theorem Ih:∀ (t:Tr) (z:Nf×Nat),Nf.ok z→Nf.ok (bH t z)
 | .mk k s kids lo hi,(y,f),h=>by
  rw[bH]
  split
  ·exact VU kids _ h
  split
  ·obtain⟨h1,h2⟩:=VW kids y f [] h (by simp)
   dsimp only
   generalize fQ kids y f []=A at *
   obtain⟨h3,h4⟩:=acf A.2 A.1.states (A.1.state 0) (h1.state (by omega)) (by simp only[Nf.state];omega) (fun x hx=>by have:=h2 x hx;simp only[Nf.state];omega)
   exact⟨h3,by rw[h4];simp only[Nf.state];omega⟩
  split
  ·exact Rl _ _ (fun z=>Dq kids z) (fun z=>sN kids z) _ h
  split
  ·have h1:=Dq kids (y,f) h
   have h2:=h.1.yF h1.1 (sN kids (y,f))
   dsimp only at h2 ⊢
   generalize nN kids (y,f)=A at *
   have hf:f<y.states:=h.2
   exact⟨(((h1.1.state (by omega)).link (by simp only[Nf.state];have:=h1.2;omega) (by simp only[Nf.state];omega))).link (by simp only[Nf.state,Nf.link];omega) (by simp only[Nf.state,Nf.link];omega),by simp only[Nf.state,Nf.link];omega⟩
  split
  ·split
   ·exact h
   ·dsimp only
    have h1:=O6 (nN kids) (fun z=>Dq kids z) lo.toNat (y,f) h
    generalize bY (nN kids) lo.toNat (y,f)=Z at *
    split
    ·exact Rl _ _ (fun z=>Dq kids z) (fun z=>sN kids z) _ h1
    ·split
     ·exact h1
     ·have h0:(Z.1.state 0).wf:=h1.1.state (by omega)
      have key:∀ (n:Nat) (z:Nf×Nat),Nf.ok z→Z.1.states<z.1.states→Nf.ok (bY (fun z=>nN kids (z.1.link z.2 Z.1.states,z.2)) n z)∧Z.1.states<(bY (fun z=>nN kids (z.1.link z.2 Z.1.states,z.2)) n z).1.states:=by
       intro n
       induction n with
       | zero=>intro z hz hs;rw[bY];exact⟨hz,hs⟩
       | succ n ih =>
        intro z hz hs
        rw[bY]
        have h2:=Dq kids (z.1.link z.2 Z.1.states,z.2) ⟨hz.1.link hz.2 hs,hz.2⟩
        have h3:=(hz.1.link hz.2 hs).yF h2.1 (sN kids (z.1.link z.2 Z.1.states,z.2))
        exact ih _ h2 (by simp only[Nf.link] at h3 ⊢;omega)
      obtain⟨h2,h3⟩:=key (hi - lo).toNat (Z.1.state 0,Z.2) ⟨h0,by have:=h1.2;simp only[Nf.state];omega⟩ (by simp only[Nf.state];omega)
      exact⟨h2.1.link h2.2 h3,h3⟩
  split
  ·exact h
  split
  ·have hf:f<y.states:=h.2
   exact⟨(h.1.state (by omega)).edge (by simp only[Nf.state];omega) (by simp only[Nf.state];omega),by simp only[Nf.state,Nf.edge];omega⟩
  ·exact⟨h.1.state (by omega),by simp only[Nf.state];omega⟩
theorem Dq:∀ (l:List Tr) (z:Nf×Nat),Nf.ok z→Nf.ok (nN l z)
 | [],z,h=>by rw[nN];exact h
 | x::_,z,h=>by rw[nN];exact Ih x z h
theorem VU:∀ (l:List Tr) (z:Nf×Nat),Nf.ok z→Nf.ok (jV l z)
 | [],z,h=>by rw[jV];exact h
 | x::l,z,h=>by rw[jV];exact VU l _ (Ih x z h)
theorem VW:∀ (l:List Tr) (y:Nf) (f:Nat) (ends:List Nat),Nf.ok (y,f)→(∀ x∈ends,x<y.states)→(fQ l y f ends).1.wf∧∀ x∈(fQ l y f ends).2,x<(fQ l y f ends).1.states
 | [],y,_,ends,h,he=>by rw[fQ];exact⟨h.1,he⟩
 | x::l,y,f,ends,h,he=>by
  rw[fQ]
  have h1:=Ih x (y,f) h
  have h2:=h.1.yF h1.1 (oC x (y,f))
  have hf:f<y.states:=h.2
  refine VW l _ f _ ⟨h1.1,by show f<(bH x (y,f)).1.states;dsimp only at h2;omega⟩ fun e he'=>?_
  rcases List.mem_append.1 he' with he' | he'
  ·have:=he e he';dsimp only at h2;omega
  ·simp at he';subst he';exact h1.2
end
theorem afO(l:List Tr)(hl:l.length≤64):(qX l).1.wf∧0<(qX l).1.states:=by
 have:∀ (l:List Tr) (z:Nf×Nat),z.1.wf→0<z.1.states→z.2+l.length≤64→(l.foldl nY z).1.wf∧0<(l.foldl nY z).1.states:=by
  intro l
  induction l with
  | nil=>intro z h1 h2 _;exact⟨h1,h2⟩
  | cons x l ih =>
   intro z h1 h2 h3
   rw[List.length_cons] at h3
   rw[List.foldl_cons]
   have g1:=Ih x (z.1,0) ⟨h1,h2⟩
   have g2:(nY z x).1.wf:=by
    unfold nY
    exact(g1.1.state (by omega)).link (by simp only[Nf.state];have:=g1.2;omega) (by simp only[Nf.state];omega)
   exact ih _ g2 (by have:=h1.yF g2 (Ri z x);omega) (by unfold nY;dsimp only;omega)
 exact this l (Ac,0) ⟨rfl,by simp[Ac,Nf.state],by simp[Ac,Nf.state],by simp[Ac,Nf.state]⟩ (by simp[Ac,Nf.state]) (by simpa using hl)
end
section
open Go.RowKit
def mix(s t:au)(j:Nat):au:=zS (if 0<j then word t 0 else word s 0) (if 1<j then word t 1 else word s 1) (if 2<j then word t 2 else word s 2) (if 3<j then word t 3 else word s 3)
theorem xC(s t:au)(j k:Nat)(hk:k<4):word (mix s t j) k=if k<j then word t k else word s k:=by
 unfold mix
 have hm:∀ i,(if i<j then word t i else word s i) % 2 ^ 64=if i<j then word t i else word s i:=fun i=>Nat.mod_eq_of_lt (by split <;> exact word_lt _ _)
 obtain⟨e0,e1,e2,e3⟩:=QO (if 0<j then word t 0 else word s 0) (if 1<j then word t 1 else word s 1) (if 2<j then word t 2 else word s 2) (if 3<j then word t 3 else word s 3)
 match k,hk with
 | 0,_=>rw[e0,hm 0]
 | 1,_=>rw[e1,hm 1]
 | 2,_=>rw[e2,hm 2]
 | 3,_=>rw[e3,hm 3]
theorem Rn(s t:au):mix s t 0=s:=word_inj fun i hi=>by rw[xC _ _ _ _ hi,if_neg (by omega)]
theorem Ro(s t:au):mix s t 4=t:=word_inj fun i hi=>by rw[xC _ _ _ _ hi,if_pos hi]
theorem acg(s t:au)(j:Nat)(hj:j<4):(bV (mix s t j)).setIfInBounds j (.int .u64 (word t j:Nat))=bV (mix s t (j+1)):=by
 have h:=QT (mix s t j) (mix s t (j+1)) j hj fun i hi hne=>by
  rw[xC _ _ _ _ hi,xC _ _ _ _ hi]
  by_cases h:i<j
  ·rw[if_pos h,if_pos (by omega)]
  ·rw[if_neg h,if_neg (by omega)]
 rwa[xC _ _ _ _ hj,if_pos (by omega)] at h
theorem Box.mix{w:World}{b E:Nat}{s t:au}{j:Nat}(h:Box w b (bV (mix s t j)) E)(hj:j<4)(v:Value)(hv:v=.int .u64 (word t j:Nat)):Box (w.setCell ⟨b,j,none⟩ v) b (bV (Proofs.YtaoinbjjolikhaaGreatDoor.mix s t (j+1))) E:=by
 subst hv
 rw[←acg s t j hj]
 exact h.set j _
theorem Box.agN{w:World}{b E:Nat}{s t:au}{j:Nat}(h:Box w b (bV (Proofs.YtaoinbjjolikhaaGreatDoor.mix s t j)) E)(hj:j<4):w.cell? ⟨b,j,none⟩=some (.int .u64 (word s j:Nat)):=by
 have:=h.agI hj
 rwa[xC _ _ _ _ hj,if_neg (by omega)] at this
theorem BF(s:au)(j:Nat)(h:j<4)(w:World):(Instr.index 99 (.agg #[.int .u64 (word s 0:Nat),.int .u64 (word s 1:Nat),.int .u64 (word s 2:Nat),.int .u64 (word s 3:Nat)]) (.int .i64 (j:Nat))).run Tryz.prog w=.ok (.int .u64 (word s j:Nat)) w:=by
 have i0:(Instr.index 99 (.agg #[.int .u64 (word s 0:Nat),.int .u64 (word s 1:Nat),.int .u64 (word s 2:Nat),.int .u64 (word s 3:Nat)]) (.int .i64 (0:Nat))).run Tryz.prog w=.ok (.int .u64 (word s 0:Nat)) w:=by kernel_rfl
 have i1:(Instr.index 99 (.agg #[.int .u64 (word s 0:Nat),.int .u64 (word s 1:Nat),.int .u64 (word s 2:Nat),.int .u64 (word s 3:Nat)]) (.int .i64 (1:Nat))).run Tryz.prog w=.ok (.int .u64 (word s 1:Nat)) w:=by kernel_rfl
 have i2:(Instr.index 99 (.agg #[.int .u64 (word s 0:Nat),.int .u64 (word s 1:Nat),.int .u64 (word s 2:Nat),.int .u64 (word s 3:Nat)]) (.int .i64 (2:Nat))).run Tryz.prog w=.ok (.int .u64 (word s 2:Nat)) w:=by kernel_rfl
 have i3:(Instr.index 99 (.agg #[.int .u64 (word s 0:Nat),.int .u64 (word s 1:Nat),.int .u64 (word s 2:Nat),.int .u64 (word s 3:Nat)]) (.int .i64 (3:Nat))).run Tryz.prog w=.ok (.int .u64 (word s 3:Nat)) w:=by kernel_rfl
 match j,h with
 | 0,_=>exact i0
 | 1,_=>exact i1
 | 2,_=>exact i2
 | 3,_=>exact i3
theorem ach(s x:au)(j:Nat):bits BinOp.or IntKind.u64 (word s j:Nat) (word x j:Nat)=((word (s ||| x) j:Nat):Int):=by
 rw[afJ,bits_or_u64_nat _ _ (word_lt _ _) (word_lt _ _)]
theorem afP(a:Nat)(h:a<2 ^ 64):(2 ^ 64 - 1) ^^^ a=18446744073709551615 - a:=by
 refine Nat.eq_of_testBit_eq fun i=>?_
 rw[Nat.testBit_xor,Nat.testBit_two_pow_sub_one,show 18446744073709551615 - a=2 ^ 64 - (a+1) by omega,Nat.testBit_two_pow_sub_succ h]
 by_cases hi:i<64
 ·simp[hi]
 ·simp[hi,Nat.testBit_lt_two_pow (Nat.lt_of_lt_of_le h (Nat.pow_le_pow_right (by decide) (show 64≤i by omega)))]
theorem Zl(s:au)(j:Nat)(hj:j<4):bits BinOp.xor IntKind.u64 IntKind.u64.max (word s j:Nat)=((word (~~~s) j:Nat):Int):=by
 rw[abW _ _ hj,show IntKind.u64.max=((2 ^ 64 - 1:Nat):Int) by decide,u64_xor_nat _ _ (by decide) (word_lt _ _),afP _ (word_lt _ _)]
theorem Rq(s:au)(w:World):Calls Tryz.prog 212 #[.agg (bV s)] w (aX w (iP (~~~s))):=by
 have hop:=Zl s
 generalize ~~~s=t at *
 go_enter Tryz.func212,Tryz.ntmps212
 go_wp2
 go_loopw [6] (fun i wr=>∃ j:Nat,j≤4∧i=.int .i64 j∧Box wr w.heap.size (bV (mix s t j)) 99∧Box wr (w.heap.size+1) (bV 0) 99∧Below w.heap.size w wr) (fun i _=>4 - (intOf i).toNat)
 case atStart =>
  refine⟨0,Nat.zero_le _,rfl,?_,?_,by go_grown⟩
  ·rw[Rn];exact(Box.new' rfl _ _).alloc _
  ·rw[gV];exact Box.new' (by simp) _ _
 case round =>
  obtain⟨j,hj,rfl,hb,h0,hB⟩:=hrel
  by_cases hlt:j<4
  ·have gw:=BF s j hlt
   have hc:=hb.agN hlt
   have hf:=hb.free j
   have hv:=hop j hlt
   go_wp2
   go_roundw
   case rel=>exact⟨j+1,hlt,by go_num,hb.mix hlt _ (by rw[if_neg (by decide),hv]),h0.other _ _ (by simp),by go_grown⟩
   case measure=>simp[intOf];omega
  ·obtain rfl:j=4:=by omega
   rw[Ro] at hb
   obtain⟨⟨p0,p1,p2,p3⟩,⟨q0,q1,q2,q3⟩⟩:=h0.jE
   obtain⟨⟨r0,r1,r2,r3⟩,_⟩:=hb.jE
   go_wp2
   exact dn Tryz.results212 rfl (h0.eX rfl _ _ _ _) Tryz.underlying99 rfl (by kernel_rfl) rfl ⟨rfl,by go_grown⟩
theorem Ej(a:Option Addr)(cap:Nat)(l:List au)(w:World)(h:ak w (.slice a l.length cap) 4 encS l) :
  Calls Tryz.prog 193 #[.slice a l.length cap] w (aX w (iP (l.foldl (· ||| ·) 0))):=by
 obtain⟨b,o,hlen,hcap,hcap',ha,hbl,hcell⟩:=h.sets
 clear hlen h hbl
 have HC:=ah hcell
 clear hcell
 go_enter Tryz.func193,Tryz.ntmps193
 go_wp2
 go_loopw [10] (fun i wr=>∃ j:Nat,j≤l.length∧i=.int .i64 j∧Box wr w.heap.size (bV 0) 99∧Box wr (w.heap.size+1) (bV ((l.take j).foldl (· ||| ·) 0)) 99∧Below w.heap.size w wr) (fun i _=>l.length - (intOf i).toNat)
 case atStart =>
  refine⟨0,Nat.zero_le _,rfl,?_,?_,by go_grown⟩
  ·rw[gV];exact(Box.new' rfl _ _).alloc _
  ·rw[List.take_zero,List.foldl_nil,gV];exact Box.new' (by simp) _ _
 case round =>
  obtain⟨j,hj,rfl,h0,hb,hB⟩:=hrel
  by_cases hlt:j<l.length
  ·have hdj:decide ((j:Int)<(l.length:Int))=true:=decide_eq_true (by omega)
   obtain rfl:=ha j hlt
   obtain⟨c0,c1,c2,c3⟩:=HC.out j hlt wr hB
   have e2:(l.take (j+1)).foldl (· ||| ·) 0=(l.take j).foldl (· ||| ·) 0 ||| l[j]:=by rw[List.take_succ_eq_append_getElem hlt,List.foldl_append];rfl
   have HE:=ah e2
   clear e2
   generalize l[j]=x at *
   generalize (l.take j).foldl (· ||| ·) 0=s at *
   have hop:=ach s x
   generalize s ||| x=t at *
   have hs0:=h0.lt
   have hs1:=hb.lt
   go_wp2
   go_loopw [15] (fun i wr=>∃ k:Nat,k≤4∧i=.int .i64 k∧Box wr w.heap.size (bV 0) 99∧Box wr (w.heap.size+1) (bV (mix s t k)) 99∧Below w.heap.size w wr) (fun i _=>4 - (intOf i).toNat)
   case atStart=>exact⟨0,Nat.zero_le _,rfl,h0.alloc _,by rw[Rn];exact hb.alloc _,by go_grown⟩
   case round =>
    obtain⟨k,hk,rfl,h0,hb,hB⟩:=hrel
    by_cases hlt2:k<4
    ·have gw:=BF x k hlt2
     have hc:=hb.agN hlt2
     have hf:=hb.free k
     have hv:=hop k
     go_wp2
     go_roundw
     case rel=>exact⟨k+1,hlt2,by go_num,h0.other _ _ (by simp),hb.mix hlt2 _ rfl,by go_grown⟩
     case measure=>simp[intOf];omega
    ·obtain rfl:k=4:=by omega
     rw[Ro] at hb
     go_wp2
     go_roundw
     case rel=>exact⟨j+1,hlt,by go_num,h0,by rw[HE.out];exact hb,hB⟩
     case measure=>simp[intOf];omega
  ·obtain rfl:j=l.length:=by omega
   rw[List.take_length] at hb
   obtain⟨⟨p0,p1,p2,p3⟩,⟨q0,q1,q2,q3⟩⟩:=h0.jE
   obtain⟨⟨r0,r1,r2,r3⟩,_⟩:=hb.jE
   go_wp2
   exact dn Tryz.results193 rfl (h0.eX rfl _ _ _ _) Tryz.underlying99 rfl (by kernel_rfl) rfl ⟨rfl,by go_grown⟩
end
section
open Go.RowKit
theorem JD(s:au)(x:Nat)(w:World)(hx:x<256) :
  Calls Tryz.prog 154 #[iP s,.int .u8 x] w (aX w (.bool (mem s x))):=by
 have hxi:=yC s (x / 64) (by omega)
 have hz:=word_lt s (x / 64)
 go_enter Tryz.func154,Tryz.ntmps154
 go_wp2
 go_ret
 exact⟨congrArg (fun b=>Ending.returned (.bool b)) ((and_one _ _ hz).trans (DZ s x).symm),by go_grown⟩
theorem Ii(a:Option Addr)(cap:Nat)(xs:List Nat)(w:World)(h:ak w (.slice a xs.length cap) 1 (fun x:Nat=>[.int .u8 x]) xs)(hx:∀ x∈xs,x<256) :
  Calls Tryz.prog 185 #[.slice a xs.length cap] w (aX w (iP (nS xs))):=by
 obtain⟨b,o,hlen,hcap,hcap',ha,hcell⟩:=h.open
 clear hlen h
 go_enter Tryz.func185,Tryz.ntmps185
 go_wp2
 go_loopw [8] (fun i wr=>∃ k:Nat,k≤xs.length∧i=.int .i64 k∧Box wr w.heap.size (bV 0) 99∧Box wr (w.heap.size+1) (bV (nS (xs.take k))) 99∧Below w.heap.size w wr) (fun i _=>xs.length - (intOf i).toNat)
 case atStart =>
  refine⟨0,Nat.zero_le _,rfl,?_,?_,by go_grown⟩
  ·rw[gV];exact(Box.new' rfl _ _).alloc _
  ·rw[List.take_zero,show nS []=0 from rfl,gV];exact Box.new' (World.size_alloc _ _).symm _ _
 case round =>
  obtain⟨k,hk,rfl,hb0,hb1,hB⟩:=hrel
  by_cases hlt:k<xs.length
  ·obtain rfl:=ha k hlt
   have hxk:=hx xs[k] (List.getElem_mem hlt)
   have hc:wr.cell? ⟨b,o+k,none⟩=some (.int .u8 (xs[k]:Nat)):=by
    have:=hcell k hlt 0 _ rfl
    rw[hB.cell (World.block_lt_of_cell? w _ (by simpa using this))];simpa using this
   have e1:wr.cell? ⟨w.heap.size+1,xs[k] / 64,none⟩=some (.int .u64 (word (nS (xs.take k)) (xs[k] / 64):Nat)):=by
    rw[hb1.cell];simpa using yC _ _ (by omega)
   have e2:=hb1.free (xs[k] / 64)
   have e3:nS (xs.take (k+1))=nV (nS (xs.take k)) xs[k]:=by rw[List.take_succ_eq_append_getElem hlt,abX]
   have e4:=ah e3
   clear e3 ha hcell hx
   generalize xs[k]=x at *
   have hw:=word_lt (nS (xs.take k)) (x / 64)
   go_wp2
   go_roundw
   case rel =>
    refine⟨k+1,hlt,by go_num,hb0.other _ _ (by simp),?_,by go_grown⟩
    rw[e4.out,or_bit _ _ hw (Nat.mod_lt _ (by decide)),←KJ _ _ hxk]
    exact hb1.set _ _
   case measure=>simp[intOf];omega
  ·have hke:k=xs.length:=by omega
   subst hke
   obtain⟨⟨p0,p1,p2,p3⟩,⟨q0,q1,q2,q3⟩⟩:=hb0.jE
   obtain⟨⟨r0,r1,r2,r3⟩,_⟩:=hb1.jE
   rw[List.take_length] at r0 r1 r2 r3
   clear hb1 ha hcell
   go_wp2
   exact dn Tryz.results185 rfl (hb0.eX rfl _ _ _ _) Tryz.underlying99 rfl (by kernel_rfl) rfl ⟨rfl,by go_grown⟩
theorem aci(s:au)(x:Nat)(w:World)(hx:x<256) :
  Calls Tryz.prog 161 #[iP s,.int .i64 x] w (aX w (iP (nV s x))):=by
 have hxi:=yC s (x / 64) (by omega)
 have hst:=Xk s x hx
 go_enter Tryz.func161,Tryz.ntmps161
 go_wp2
 exact dn Tryz.results161 rfl (Box.new' (World.size_alloc _ _).symm _ _) Tryz.underlying99 rfl (by kernel_rfl) rfl ⟨rfl,by go_grown⟩
theorem Ld(n:Nat)(w:World)(h:n≤64) :
  Calls Tryz.prog 243 #[.int .i64 n] w (aX w (.int .u64 ((2 ^ n - 1:Nat):Int))):=by
 by_cases hn:64≤n
 ·obtain rfl:n=64:=by omega
  go_enter Tryz.func243,Tryz.ntmps243
  go_wp2
  go_ret
  exact⟨rfl,by go_grown⟩
 ·go_enter Tryz.func243,Tryz.ntmps243
  go_wp2
  go_ret
  refine⟨?_,by go_grown⟩
  refine congrArg (fun z=>Ending.returned (.int .u64 z)) ?_
  have h1:=zX n (by omega)
  have h2:0<2 ^ n:=Nat.two_pow_pos n
  rw[wrap_two_pow n (by omega),show((2 ^ n:Nat):Int) - 1=((2 ^ n - 1:Nat):Int) from(Int.ofNat_sub h2).symm,IntKind.wrap_u64]
  exact Int.emod_eq_of_lt (Int.natCast_nonneg _) (Int.ofNat_lt.2 (Nat.lt_of_le_of_lt (Nat.sub_le _ _) h1))
theorem uN(lo hi:Nat)(w:World)(hlo:lo<256)(hhi:hi<256) :
  Calls Tryz.prog 239 #[.int .u8 lo,.int .u8 hi] w (aX w (iP (ou fun b=>decide (lo≤b)&&decide (b≤hi)))):=by
 by_cases hlh:hi<lo
 ·go_enter Tryz.func239,Tryz.ntmps239
  go_wp2
  have e:(ou fun b=>decide (lo≤b)&&decide (b≤hi))=0:=(QS 0 _ fun b _=>by rw[zY];by_cases h:lo≤b <;> simp[h];omega).symm
  rw[e]
  have hz:=gV
  unfold iP
  rw[hz]
  exact dn Tryz.results239 rfl ((Box.new' rfl _ _).alloc _) Tryz.underlying99 rfl (by kernel_rfl) rfl ⟨rfl,by go_grown⟩
 ·go_enter Tryz.func239,Tryz.ntmps239
  go_wp2
  go_loopw [13] (fun i wr=>∃ k:Nat,k≤4∧i=.int .i64 k∧Box wr w.heap.size (bV 0) 99∧Box wr (w.heap.size+1) (bV (ou fun b=>decide (lo≤b)&&decide (b≤hi)&&decide (b<64*k))) 99∧Below w.heap.size w wr) (fun i _=>4 - (intOf i).toNat)
  case atStart =>
   refine⟨0,Nat.zero_le _,rfl,?_,?_,by go_grown⟩
   ·rw[gV];exact(Box.new' rfl _ _).alloc _
   ·rw[show(ou fun b=>decide (lo≤b)&&decide (b≤hi)&&decide (b<64*0))=0 from(QS 0 _ fun b _=>by rw[zY];simp).symm,gV];exact Box.new' (World.size_alloc _ _).symm _ _
  case round =>
   obtain⟨k,hk,rfl,hb0,hb1,hB⟩:=hrel
   by_cases hlt:k<4
   ·obtain⟨f,hf,hf2⟩:∃ f:Nat,(if (lo:Int) - 64*(k:Int)<0 then 0 else (lo:Int) - 64*(k:Int))=(f:Int)∧f=lo - 64*k:=⟨lo - 64*k,by split <;> omega,rfl⟩
    obtain⟨T,hT,hT2⟩:∃ T:Int,(if 64<(hi:Int)+1 - 64*(k:Int) then 64 else (hi:Int)+1 - 64*(k:Int))=T∧T=min 64 ((hi:Int)+1 - 64*k):=⟨_,rfl,by split <;> omega⟩
    have HF:=ah hf2
    have HT:=ah hT2
    have apJ:T≤64:=by omega
    by_cases hft:(f:Int)<T
    ·obtain⟨t,rfl⟩:=Int.eq_ofNat_of_zero_le (show 0≤T by omega)
     clear hf2 hT2
     have agO:t≤64:=by omega
     have agP:f≤64:=by omega
     obtain⟨x,hx,alQ,aeD⟩:=QV f t agP agO
     have HB:=ah aeD
     clear aeD
     go_wp2_with (first | (go_at_call_of 243 ((Value.int IntKind.i64 (t:Int)));refine(Ld t _ agO).mono ?_;rintro e w1 ⟨rfl,hb⟩;have hx1:=hb1.kept hb;have hx0:=hb0.kept hb;have hB1:=hB.trans (hb.mono hB.size)) | (go_at_call_of 243 ((Value.int IntKind.i64 (f:Int)));refine(Ld f _ agP).mono ?_;rintro e w2 ⟨rfl,hc⟩;have hy1:=hx1.kept hc;have hy0:=hx0.kept hc;have hB2:=hB1.trans (hc.mono hB1.size);have hyc:=hy1.agI hlt;have hyf:=hy1.free k))
     go_roundw
     case rel =>
      refine⟨k+1,hlt,by go_num,hy0.other _ _ (by simp),?_,by go_grown⟩
      have hw:x=word (ou fun b=>decide (lo≤b)&&decide (b≤hi)&&decide (b<64*(k+1))) k:=by
       refine Fq _ _ _ alQ fun j hj=>?_
       have h1:=HF.out;have h2:=HT.out
       rw[HB.out j hj,pY,Bool.eq_iff_iff]
       simp only[Bool.and_eq_true,decide_eq_true_eq]
       omega
      rw[hw,←QT (ou fun b=>decide (lo≤b)&&decide (b≤hi)&&decide (b<64*k)) _ k hlt]
      ·exact hy1.set _ _
      ·intro j hj hjk
       refine Fq _ _ _ (word_lt _ _) fun i hi'=>?_
       rw[gJ,pY,pY,Bool.eq_iff_iff]
       simp only[Bool.and_eq_true,decide_eq_true_eq]
       omega
     case measure=>simp[intOf];omega
    ·clear hf2 hT2
     have e:(ou fun b=>decide (lo≤b)&&decide (b≤hi)&&decide (b<64*(k+1)))=(ou fun b=>decide (lo≤b)&&decide (b≤hi)&&decide (b<64*k)):=by
      have h1:=HF.out;have h2:=HT.out
      refine Bl fun b _=>?_
      rw[Bool.eq_iff_iff];simp only[Bool.and_eq_true,decide_eq_true_eq]
      omega
     have HE:=ah e
     clear e
     go_wp2
     go_roundw
     case rel=>exact⟨k+1,hlt,by go_num,hb0,by rw[HE.out];exact hb1,hB⟩
     case measure=>simp[intOf];omega
   ·obtain rfl:k=4:=by omega
    have e:(ou fun b=>decide (lo≤b)&&decide (b≤hi)&&decide (b<64*4))=(ou fun b=>decide (lo≤b)&&decide (b≤hi)):=Bl fun b hb=>by simp[show b<64*4 by omega]
    rw[e] at hb1
    clear e
    obtain⟨⟨p0,p1,p2,p3⟩,⟨q0,q1,q2,q3⟩⟩:=hb0.jE
    obtain⟨⟨r0,r1,r2,r3⟩,_⟩:=hb1.jE
    go_wp2
    exact dn Tryz.results239 rfl (hb0.eX rfl _ _ _ _) Tryz.underlying99 rfl (by kernel_rfl) rfl ⟨rfl,by go_grown⟩
end
section
open Go.RowKit
def Nf.goes(y:Nf)(s:Nat):List Nat:=(y.links.filter fun l=>l.1==s).map (·.2)
def Nf.out(y:Nf)(s:Nat):List (Nat×au×Nat):=y.edges.filter fun e=>e.1==s
def fU(y:Nf)(l:List Nat):List Nat:=gZ y.states (qV y.states y.goes (y.states+1) (l.foldl (jH y.states) (0,[])))
def iC(y:Nf)(l:List Nat)(b:Nat):List Nat:=fU y (l.flatMap fun s=>((y.out s).filter fun e=>mem e.2.1 b).map (·.2.2))
theorem JE(n:Nat)(l:List Nat)(st:Nat×List Nat)(h:st.1<2 ^ n):(l.foldl (jH n) st).1<2 ^ n:=by
 induction l generalizing st with
 | nil=>exact h
 | cons a l ih=>rw[List.foldl_cons];exact ih _ (afN n st a h)
theorem FI(n:Nat)(goes:Nat→List Nat):∀ (f:Nat) (st:Nat×List Nat),st.1<2 ^ n→qV n goes f st<2 ^ n
 | 0,st,h=>h
 | f+1,st,h=>by
  rw[qV]
  split
  ·exact h
  ·exact FI n goes f _ (JE n _ _ h)
theorem acj(n:Nat)(st:Nat×List Nat)(s:Nat)(h:∀ x∈st.2,x<n):∀ x∈(jH n st s).2,x<n:=by
 unfold jH
 split
 ·rename_i h1
  intro x hx
  rcases List.mem_append.1 hx with hx | hx
  ·exact h x hx
  ·simp at hx;omega
 ·exact h
theorem O7(n:Nat)(l:List Nat)(st:Nat×List Nat)(h:∀ x∈st.2,x<n):∀ x∈(l.foldl (jH n) st).2,x<n:=by
 induction l generalizing st with
 | nil=>exact h
 | cons a l ih=>rw[List.foldl_cons];exact ih _ (acj n st a h)
theorem Le{α β:Type}(f:β→α→β)(l:List α)(z:β)(k:Nat)(h:k<l.length):(l.take (k+1)).foldl f z=f ((l.take k).foldl f z) l[k]:=by
 rw[List.take_succ_eq_append_getElem h,List.foldl_append];rfl
theorem O8{α β:Type}(f:β→α→β)(l:List α)(z:β):(l.take l.length).foldl f z=l.foldl f z:=by rw[List.take_length]
end
end Go.Proofs.YtaoinbjjolikhaaGreatDoor
