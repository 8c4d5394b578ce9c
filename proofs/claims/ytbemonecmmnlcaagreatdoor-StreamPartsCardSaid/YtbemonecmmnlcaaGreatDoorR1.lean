/- The texts of Q1, in few letters (mini.py). -/
import Derived.Deep.Upon
import Derived.Test.YtbemonecmmnlcaaGreatDoorM5
import Derived.Test.YtbemonecmmnlcaaGreatDoorM1
set_option linter.unusedVariables false
set_option linter.unusedSimpArgs false
namespace Go.Proofs.YtbemonecmmnlcaaGreatDoor
section
open Go.RowKit
theorem Own.empty'{α:Type}{w:World}{b:Nat}(hb:b=w.heap.size)(base E size:Nat)(enc:α→List Value)(h:base≤w.heap.size):Own (w.alloc (.cells #[] E)) base E size enc (.slice (some ⟨b,0,none⟩) 0 0) []:=by
 subst hb;exact Own.empty w base E size enc h
end
section
open Go.ChangeShapes Go.WideShapes Go.ChangeAt Go.RowKit Go.Deep
section
variable {H:Type} {enc:TypeId×Value→H} {P:Program} {w:World} {base:Nat} {spare:Nat→Bool} {held:Bool} {fuel:Nat} {t e:TypeId} {cs:List Value} {x:DataW H×List MemPlace}
theorem aes{n:Nat}{k:IntKind}(ht:P.underlying t=some (.array n e))(he:P.underlying e=some (.int k))(hc:P.cellsOf e=1)(hct:P.cellsOf t=n)(h:DataW.trod enc P w base spare held fuel t cs=some x) :
  ∃ zs:List Int,zs.length=n∧cs=zs.map (Value.int k)∧∀ z∈zs,(Lit.int k z).wf=true:=by
 obtain⟨xs,m,_,_,hl,hxl,hx⟩:=DataW.trod_array ht h
 rw[hct] at hl
 have key:∀ i,i<n→∃ z:Int,cs[i]?=some (.int k z)∧(Lit.int k z).wf=true:=fun i hi=>by
  have h1:=hx i hi
  rw[hc,Nat.mul_one,List.getElem?_eq_getElem (show i<xs.length by omega)] at h1
  obtain⟨z,h2,_,h3⟩:=DataW.trod_int he h1
  refine⟨z,?_,h3⟩
  have:=congrArg (fun l:List Value=>l[0]?) h2
  simpa using this
 obtain⟨f,hf⟩:=choose_lt key
 refine⟨(List.range n).map f,by simp,?_,fun z hz=>?_⟩
 ·apply List.ext_getElem?
  intro i
  by_cases hi:i<n
  ·rw[(hf i hi).1];simp[hi]
  ·rw[List.getElem?_eq_none (by omega),List.getElem?_eq_none (by simp;omega)]
 ·obtain⟨i,hi,rfl⟩:=List.mem_map.1 hz
  exact(hf i (by simpa using hi)).2
theorem afn(ht:P.underlying t=some (.array 256 e))(he:P.underlying e=some (.int .u8))(hc:P.cellsOf e=1)(hct:P.cellsOf t=256)(h:DataW.trod enc P w base spare held fuel t cs=some x) :
  ∃ f:Nat→Nat,cs=(aT f).toList∧∀ b,f b<256:=by
 obtain⟨zs,hl,rfl,hw⟩:=aes ht he hc hct h
 have hb:∀ i,0≤zs.getD i 0∧zs.getD i 0<256:=fun i=>by
  by_cases hi:i<zs.length
  ·obtain⟨n,hn,hlt⟩:=wf_u8 (hw zs[i] (List.getElem_mem hi))
   simp only[List.getD,List.getElem?_eq_getElem hi,Option.getD_some,hn];omega
  ·simp[List.getD,List.getElem?_eq_none (show zs.length≤i by omega)]
 refine⟨fun i=>(zs.getD i 0).toNat,?_,fun b=>by have:=hb b;show(zs.getD b 0).toNat<256;omega⟩
 apply List.ext_getElem?
 intro i
 by_cases hi:i<256
 ·have:=fF (fun i=>(zs.getD i 0).toNat) i hi
  rw[←Array.getElem?_toList] at this
  rw[this]
  have h1:=hb i
  rw[List.getElem?_map]
  simp only[List.getD] at h1 ⊢
  rw[List.getElem?_eq_getElem (show i<zs.length by omega)] at h1 ⊢
  simp at h1 ⊢
  omega
 ·have h1:(aT fun i=>(zs.getD i 0).toNat).toList[i]?=none:=List.getElem?_eq_none (by rw[Array.length_toList,aO];omega)
  rw[h1,List.getElem?_eq_none (by simp;omega)]
end
end
section
open Go.RowKit
theorem ak.ahL{α:Type}{w:World}{b o n c size:Nat}{enc:α→List Value}{ys:List α}(he:eH enc size)(hpos:0<size)(h:ak w (.slice (some ⟨b,o,none⟩) n c) size enc ys):∀ j u,(ys.flatMap enc)[j]?=some u→w.cell? ((⟨b,o,none⟩:Addr).add j)=some u:=fun j u hu=>by
 obtain⟨a',b',o',c',hv,_,_,ha,hx⟩:=h
 obtain⟨rfl,rfl,rfl⟩:=Value.slice.inj hv
 have hl:(ys.flatMap enc).length=ys.length*size:=by
  have:∀ l:List α,(l.flatMap enc).length=l.length*size:=by
   intro l
   induction l with
   | nil=>simp
   | cons x l ih=>rw[List.flatMap_cons,List.length_append,ih,he.len,List.length_cons,Nat.succ_mul,Nat.add_comm]
  exact this ys
 have hj:j<ys.length*size:=by have:=(List.getElem?_eq_some_iff.1 hu).1;omega
 have hi:j / size<ys.length:=Nat.div_lt_of_lt_mul (by rwa[Nat.mul_comm])
 have hm:=Nat.mod_lt j hpos
 have hd:=Nat.div_add_mod j size
 have e:=qF he.len ys (j / size) (j % size) hi hm
 rw[Nat.mul_comm,hd] at e
 rw[e] at hu
 have h1:=hx _ hi _ u hu
 rcases ha with ha | ⟨rfl,_⟩
 ·cases ha
  rw[Addr.add_mid]
  rwa[Nat.add_assoc,Nat.mul_comm (j / size),hd] at h1
 ·simp at hi
theorem aeA{α:Type}{P:Program}{w:World}{base E size bytes:Nat}{enc:α→List Value}{v z:Value}{xs ys:List α}{t:TypeId}(ty:TypeId)(hE:dQ P t E z size bytes)(he:eH enc size)(hown:Own w base E size enc v xs)(xa:Option Addr)(m xc:Nat)(hs:ak w (.slice xa m xc) size enc ys)
  (h63:xs.length+m≤maxLen) (hbytes:(xs.length+m)*bytes≤140737488355328) (hbase:base≤w.heap.size) :
  ∃ a' c' w',(Builtin.append_ #[t,t] ty #[v,.slice xa m xc]).run P w=.ok (.slice a' (xs.length+m) c') w'∧Own w' base E size enc (.slice a' (xs.length+m) c') (xs++ys)∧w.grownBy w' v.ownBlock∧((Value.slice a' (xs.length+m) c').ownBlock=v.ownBlock∨(Value.slice a' (xs.length+m) c').ownBlock=some w.heap.size):=by
 obtain⟨i,hi,hz,hsz,hby⟩:=hE.info
 obtain⟨b,o,hm,hmc,hc63,ha,_⟩:=hs.open
 by_cases h0:m=0
 ·subst h0
  obtain rfl:ys=[]:=List.eq_nil_of_length_eq_zero (by omega)
  obtain⟨a,cap,rfl⟩:=hown.form
  have hsrc:Src P i.size t (.slice xa 0 xc) 0 [] w:=by
   cases xa with
   | none=>exact Src.ofNil w hE.slice xc
   | some ad=>exact Src.ofSlice w hE.slice ad 0 xc [] (by simp) (fun j u hu=>by simp at hu) (fun u hu=>by cases hu)
  have hle:xs.length≤cap:=by obtain⟨_,_,hv,hle,_⟩:=hown;obtain⟨_,_,rfl⟩:=Value.slice.inj hv;exact hle
  exact⟨a,cap,w,run_append_nothing w _ _ _ E i hE.slice hi a xs.length cap hle _ hsrc,by rw[List.append_nil];exact hown,⟨rfl,rfl,rfl,Nat.le_refl _,fun _ _ _=>rfl⟩,.inl rfl⟩
 ·obtain rfl:=ha 0 (by omega)
  have hl:(ys.flatMap enc).length=m*size:=by
   have:∀ l:List α,(l.flatMap enc).length=l.length*size:=by
    intro l
    induction l with
    | nil=>simp
    | cons x l ih=>rw[List.flatMap_cons,List.length_append,ih,he.len,List.length_cons,Nat.succ_mul,Nat.add_comm]
   rw[this,hm]
  have hnews:=hs.ahL he hE.pos
  have h1:∀ u∈ys.flatMap enc,u.oneCell'=true:=fun u hu=>by
   obtain⟨x,_,hx⟩:=List.mem_flatMap.1 hu
   exact he.one x u hx
  obtain⟨v',w',hr,h2,h3,_⟩:=run_append_own (P:=P) w base t ty E i z size bytes hE.slice hi hz hsz hby hE.Hg hE.pos v xs.length (xs.flatMap enc) (hown.pU he) ⟨b,o,none⟩ m xc (ys.flatMap enc) hl hnews h1 h63 hbytes hbase
  have hb:=sD (c:=xc) hE.slice hi hz hsz hby (hown.pU he) hl hnews h1 (by omega) h63 hbytes hr
  have ho':Own w' base E size enc v' (xs++ys):=by
   refine Own.ofRow ?_ he
   rw[List.length_append,List.flatMap_append,←hm]
   exact h2
  obtain⟨a',c',rfl⟩:=ho'.form
  have e:(xs++ys).length=xs.length+m:=by rw[List.length_append];omega
  rw[e] at ho' hr hb
  exact⟨a',c',w',hr,ho',h3,hb⟩
theorem abk{α:Type}{P:Program}{w:World}{base E size bytes:Nat}{enc:α→List Value}{v z:Value}{xs ys:List α}{ops:Array Oper}{rest:List Oper}{o:Oper}{a:Act}{Q:Exit→Act→World→Prop}(hgd:o.guard=none)(s x:Operand)(t:TypeId)
  (ho:o.op=.call { callee:=.builtin .append,args:=#[s,x],argTypes:=#[t,t] }) (hE:dQ P t E z size bytes) (he:eH enc size) (hs:a.eval s=v) (hown:Own w base E size enc v xs) (xa:Option Addr) (m xc:Nat) (hx:a.eval x=.slice xa m xc) (hsl:ak w (.slice xa m xc) size enc ys)
  (h63:xs.length+m≤maxLen) (hbytes:(xs.length+m)*bytes≤140737488355328) (hbase:base≤w.heap.size)
  (K:∀ a' c' w',Own w' base E size enc (.slice a' (xs.length+m) c') (xs++ys)→w.grownBy w' v.ownBlock→((Value.slice a' (xs.length+m) c').ownBlock=v.ownBlock∨(Value.slice a' (xs.length+m) c').ownBlock=some w.heap.size)→wpList P ops Q rest (a.put o.dst (.slice a' (xs.length+m) c')) w'):wpList P ops Q (o::rest) a w:=by
 obtain⟨a',c',w',hr,h1,h2,h3⟩:=aeA (P:=P) o.type hE he hown xa m xc hsl h63 hbytes hbase
 refine wpList_plain hgd fun _ hK=>?_
 unfold Oper.wp execOp
 simp only[ho,resolve,invoke,builtin,Sem.run_bind,Sem.run_pure,Result.andThen_ok,List.map_toArray,List.map_cons,List.map_nil,hs,hx,hr]
 exact hK _ _ (K a' c' w' h1 h2 h3)
end
end Go.Proofs.YtbemonecmmnlcaaGreatDoor
