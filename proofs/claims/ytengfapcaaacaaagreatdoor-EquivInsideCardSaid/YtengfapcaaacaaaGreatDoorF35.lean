/- The texts of E35, in few letters (mini.py). -/
import Derived.Deep.Upon
import Derived.Test.YtengfapcaaacaaaGreatDoorF7
set_option linter.unusedVariables false
set_option linter.unusedSimpArgs false
namespace Go.Proofs.YtengfapcaaacaaaGreatDoor
section
open Go.ChangeShapes Go.WideShapes Go.ChangeAt Go.RowKit Go.Deep
section
variable {H:Type} {enc:TypeId×Value→H} {P:Program} {w:World} {base:Nat} {spare:Nat→Bool} {held:Bool} {fuel:Nat} {t e:TypeId} {cs:List Value} {x:DataW H×List MemPlace}
theorem Zp{ts:TypeId}(hs:P.underlying ts=some (.slice e))(he:P.underlying e=some (.int .u8))(hc:P.cellsOf e=1)
  {a:Option Addr} {len cap:Nat} (h:DataW.trod enc P w base spare held fuel ts [.slice a len cap]=some x):∃ l:List Nat,len=l.length∧au w (.slice a l.length cap) 1 dY l∧∀ x∈l,x<256:=by
 rcases open_slice1 hs hc h with⟨h0,_⟩ | ⟨a',len',cap',m,n,V,D,Pl,h0,_,hle,hm,hmm,_,hx⟩
 ·simp at h0
  obtain⟨rfl,rfl,rfl⟩:=h0
  exact⟨[],rfl,⟨none,0,0,0,rfl,Nat.le_refl _,by simp[maxLen],.inr ⟨rfl,fun _=>rfl⟩,fun i hi=>by simp at hi⟩,by simp⟩
 ·simp at h0
  obtain⟨rfl,rfl,rfl⟩:=h0
  have hlm:len≤m:=by rw[hmm];split <;> omega
  have key:∀ i,i<len→∃ y:Nat,w.cell? (a'.add i)=some (.int .u8 y)∧y<256:=fun i hi=>by
   obtain⟨h1,h2⟩:=hx i (by omega)
   obtain⟨z,h3,_,h4⟩:=DataW.trod_int he h2
   obtain⟨y,rfl,hy⟩:=wf_u8 h4
   exact⟨y,by rw[h1];simpa using h3,hy⟩
  obtain⟨f,hf⟩:=choose_lt key
  have hspot:0<len→a'.spot=none:=fun h0=>by
   have:=World.cell?_spot (hf 0 h0).1
   simpa [Addr.add] using this
  obtain⟨b,o,spot⟩:=a'
  refine⟨(List.range len).map f,by simp,⟨some ⟨b,o,spot⟩,b,o,cap,by simp,by simpa using hle,hm,?_,fun i hi j u hu=>?_⟩,fun y hy=>?_⟩
  ·by_cases h0:len=0
   ·exact .inr ⟨by simp[h0],fun h=>by cases h⟩
   ·have h1:=hspot (by omega)
    simp only at h1
    exact .inl (by rw[h1])
  ·have hi':i<len:=by simpa using hi
   have:=(hf i hi').1
   have hs2:spot=none:=hspot (by omega)
   subst hs2
   rw[Addr.add_mid] at this
   have hj:j=0:=by have:=(List.getElem?_eq_some_iff.1 hu).1;simpa using this
   subst hj
   have e:dY ((List.range len).map f)[i]=dY (f i):=by simp
   rw[e] at hu
   simp at hu
   rw[←hu,Nat.mul_one,Nat.add_zero];exact this
  ·obtain⟨i,hi,rfl⟩:=List.mem_map.1 hy
   exact(hf i (by simpa using hi)).2
end
end
section
open Go.RowKit
theorem au.agx{α:Type}{w:World}{b o n c size:Nat}{enc:α→List Value}{ys:List α}(he:dX enc size)(hpos:0<size)(h:au w (.slice (some ⟨b,o,none⟩) n c) size enc ys):∀ j u,(ys.flatMap enc)[j]?=some u→w.cell? ((⟨b,o,none⟩:Addr).add j)=some u:=fun j u hu=>by
 obtain⟨a',b',o',c',hv,_,_,ha,hx⟩:=h
 obtain⟨rfl,rfl,rfl⟩:=Value.slice.inj hv
 have hl:(ys.flatMap enc).length=ys.length*size:=by
  have:∀ l:List α,(l.flatMap enc).length=l.length*size:=by
   intro l
   induction l with
   | nil=>simp
   | cons x l ih=>rw[List.flatMap_cons,List.length_append,ih,he.len,List.length_cons,Nat.succ_mul,Nat.add_comm]
  exact this ys
 have hj:j<ys.length*size:=by have:=(List.getElem?_eq_some_iff.1 hu).1;omega
 have hi:j / size<ys.length:=Nat.div_lt_of_lt_mul (by rwa[Nat.mul_comm])
 have hm:=Nat.mod_lt j hpos
 have hd:=Nat.div_add_mod j size
 have e:=nR he.len ys (j / size) (j % size) hi hm
 rw[Nat.mul_comm,hd] at e
 rw[e] at hu
 have h1:=hx _ hi _ u hu
 rcases ha with ha | ⟨rfl,_⟩
 ·cases ha
  rw[Addr.add_mid]
  rwa[Nat.add_assoc,Nat.mul_comm (j / size),hd] at h1
 ·simp at hi
theorem IW{α:Type}{P:Program}{w:World}{base E size bytes:Nat}{enc:α→List Value}{v z:Value}{xs ys:List α}{t:TypeId}(ty:TypeId)(hE:dI P t E z size bytes)(he:dX enc size)(hown:Own w base E size enc v xs)(xa:Option Addr)(m xc:Nat)(hs:au w (.slice xa m xc) size enc ys)
  (h63:xs.length+m≤maxLen) (hbytes:(xs.length+m)*bytes≤140737488355328) (hbase:base≤w.heap.size) :
  ∃ a' c' w',(Builtin.append_ #[t,t] ty #[v,.slice xa m xc]).run P w=.ok (.slice a' (xs.length+m) c') w'∧Own w' base E size enc (.slice a' (xs.length+m) c') (xs++ys)∧w.grownBy w' v.ownBlock∧((Value.slice a' (xs.length+m) c').ownBlock=v.ownBlock∨(Value.slice a' (xs.length+m) c').ownBlock=some w.heap.size):=by
 obtain⟨i,hi,hz,hsz,hby⟩:=hE.info
 obtain⟨b,o,hm,hmc,hc63,ha,_⟩:=hs.open
 by_cases h0:m=0
 ·subst h0
  obtain rfl:ys=[]:=List.eq_nil_of_length_eq_zero (by omega)
  obtain⟨a,cap,rfl⟩:=hown.form
  have hsrc:Src P i.size t (.slice xa 0 xc) 0 [] w:=by
   cases xa with
   | none=>exact Src.ofNil w hE.slice xc
   | some ad=>exact Src.ofSlice w hE.slice ad 0 xc [] (by simp) (fun j u hu=>by simp at hu) (fun u hu=>by cases hu)
  have hle:xs.length≤cap:=by obtain⟨_,_,hv,hle,_⟩:=hown;obtain⟨_,_,rfl⟩:=Value.slice.inj hv;exact hle
  exact⟨a,cap,w,run_append_nothing w _ _ _ E i hE.slice hi a xs.length cap hle _ hsrc,by rw[List.append_nil];exact hown,⟨rfl,rfl,rfl,Nat.le_refl _,fun _ _ _=>rfl⟩,.inl rfl⟩
 ·obtain rfl:=ha 0 (by omega)
  have hl:(ys.flatMap enc).length=m*size:=by
   have:∀ l:List α,(l.flatMap enc).length=l.length*size:=by
    intro l
    induction l with
    | nil=>simp
    | cons x l ih=>rw[List.flatMap_cons,List.length_append,ih,he.len,List.length_cons,Nat.succ_mul,Nat.add_comm]
   rw[this,hm]
  have hnews:=hs.agx he hE.pos
  have h1:∀ u∈ys.flatMap enc,u.oneCell'=true:=fun u hu=>by
   obtain⟨x,_,hx⟩:=List.mem_flatMap.1 hu
   exact he.one x u hx
  obtain⟨v',w',hr,h2,h3,_⟩:=run_append_own (P:=P) w base t ty E i z size bytes hE.slice hi hz hsz hby hE.Dx hE.pos v xs.length (xs.flatMap enc) (hown.uj he) ⟨b,o,none⟩ m xc (ys.flatMap enc) hl hnews h1 h63 hbytes hbase
  have hb:=zL (c:=xc) hE.slice hi hz hsz hby (hown.uj he) hl hnews h1 (by omega) h63 hbytes hr
  have ho':Own w' base E size enc v' (xs++ys):=by
   refine Own.ofRow ?_ he
   rw[List.length_append,List.flatMap_append,←hm]
   exact h2
  obtain⟨a',c',rfl⟩:=ho'.form
  have e:(xs++ys).length=xs.length+m:=by rw[List.length_append];omega
  rw[e] at ho' hr hb
  exact⟨a',c',w',hr,ho',h3,hb⟩
end
end Go.Proofs.YtengfapcaaacaaaGreatDoor
