/- The texts of T2, in few letters (mini.py). -/
import Derived.Test.YtbemonecmmnlcaaGreatDoorU1
set_option linter.unusedVariables false
set_option linter.unusedSimpArgs false
namespace Go.Proofs.YtbemonecmmnlcaaGreatDoor
section
open Go.RowKit
section
variable {P:Program} {ops:Array Oper} {Q:Exit→Act→World→Prop} {md:Region.Mode} {R:World→World→Prop} {t:Nat}
def kT(P:Program)(md:Region.Mode)(ops:Array Oper)(Q:Exit→Act→World→Prop)(R:World→World→Prop)(t:Nat):Nat→Array Bool→Act→World→Prop
 | 0,listed,a,w=>∀ w1,R w w1→Region.ready md ops listed=[]∧Q .normal a w1
 | fuel+1,listed,a,w=>∀ w1,R w w1→(Region.ready md ops listed=[]→Q .normal a w1) ∧
   ∀ i∈Region.ready md ops listed,wpOp P ops Q i (fun a' w'=>(i≠t→R w1 w')∧kT P md ops Q R t fuel (listed.setIfInBounds i true) a' w') a w1
def Cl(md:Region.Mode)(ops:Array Oper)(listed:Array Bool):Prop:=∀ k o,ops[k]?=some o→listed.getD k false=true→∀ e∈o.after,Region.binds md e=true→listed.getD e.on false=true
def uU(md:Region.Mode)(ops:Array Oper)(listed:Array Bool):Bool:=(List.range ops.size).all fun k=>!listed.getD k false||((ops[k]?).map fun o=>o.after.all fun e=>!Region.binds md e||listed.getD e.on false).getD true
theorem Cl.ofB{listed:Array Bool}(h:uU md ops listed=true):Cl md ops listed:=fun k o ho hk e he hb=>by
 have hlt:k<ops.size:=(Array.getElem?_eq_some_iff.1 ho).1
 have:=List.all_eq_true.1 h k (List.mem_range.2 hlt)
 rw[hk,ho] at this
 simp only[Bool.not_true,Bool.false_or,Option.map_some,Option.getD_some] at this
 have:=(Array.all_eq_true_iff_forall_mem.1 this) e he
 rw[hb] at this
 simpa using this
def needs(md:Region.Mode)(ops:Array Oper)(i:Nat):Nat→Nat→Bool
 | 0,_=>false
 | f+1,t=>((ops[t]?).map fun o=>o.after.any fun e=>Region.binds md e&&(e.on==i||needs md ops i f e.on)).getD false
theorem zX{listed:Array Bool}(hc:Cl md ops listed){i:Nat}:∀ (f t:Nat) (o:Oper),ops[t]?=some o→(∀ e∈o.after,Region.binds md e=true→listed.getD e.on false=true)→needs md ops i f t=true→listed.getD i false=true
 | 0,_,_,_,_,h=>by cases h
 | f+1,t,o,ho,hl,h=>by
  unfold needs at h
  rw[ho] at h
  simp only[Option.map_some,Option.getD_some] at h
  obtain⟨e,he,h2⟩:=Array.any_eq_true'.1 h
  simp only[Bool.and_eq_true,Bool.or_eq_true,beq_iff_eq] at h2
  obtain⟨hb,h3⟩:=h2
  have hon:=hl e he hb
  rcases h3 with rfl | h3
  ·exact hon
  ·cases hoe:ops[e.on]? with
   | none =>
    cases f with
    | zero=>cases h3
    | succ f=>unfold needs at h3;rw[hoe] at h3;cases h3
   | some o2=>exact zX hc f e.on o2 hoe (fun e2 he2 hb2=>hc _ _ hoe hon e2 he2 hb2) h3
theorem Cl.step{listed:Array Bool}(hc:Cl md ops listed){j:Nat}(hj:j∈Region.ready md ops listed):Cl md ops (listed.setIfInBounds j true):=fun k o ho hk e he hb=>by
 by_cases hkj:k=j
 ·subst hkj
  obtain⟨_,o',ho',hall⟩:=mem_ready.1 hj
  rw[ho] at ho'
  cases ho'
  exact getD_set_true (hall e he hb)
 ·rw[getD_set_ne false (fun h=>hkj h.symm)] at hk
  exact getD_set_true (hc k o ho hk e he hb)
theorem kT.later(ht:∀ a b c,R a b→R b c→R a c):∀ {fuel:Nat} {listed:Array Bool} {a:Act} {w w':World},kT P md ops Q R t fuel listed a w→R w w'→kT P md ops Q R t fuel listed a w'
 | 0,_,_,_,_,h,hr=>fun w1 h1=>h w1 (ht _ _ _ hr h1)
 | _+1,_,_,_,_,h,hr=>fun w1 h1=>h w1 (ht _ _ _ hr h1)
theorem KH(hr:∀ a,R a a):∀ (fuel:Nat) (listed:Array Bool) (a:Act) (w:World),kT P md ops Q R t fuel listed a w→wpAny P md ops Q fuel listed a w
 | 0,_,_,w,h=>h w (hr w)
 | fuel+1,_,_,w,h=>⟨(h w (hr w)).1,fun i hi=>wpOp_mono (fun a' w' h'=>KH hr fuel _ a' w' h'.2) ((h w (hr w)).2 i hi)⟩
def VN(P:Program)(R:World→World→Prop)(o:Oper)(v:Value)(a:Act)(w1:World):Prop :=
 (execOp a.eval o).run P w1=.ok (.value v) w1∨∃ f args,(execOp a.eval o).run P w1=.ok (.enter f args) w1∧Calls P f args w1 fun e w2=>e=.returned v∧R w1 w2
def Gives(P:Program)(ops:Array Oper)(R:World→World→Prop)(o:Oper)(v:Value)(a:Act)(w:World):Prop :=
 (Region.wanted o (yielded ops a.tmps)=true∧∀ w1,R w w1→VN P R o v a w1)∨(Region.wanted o (yielded ops a.tmps)=false∧v=undef)
theorem Gives.wpOp(hrefl:∀ a,R a a){i:Nat}{o:Oper}{v:Value}{a:Act}(hi:ops[i]?=some o){w w1:World}(hy:Gives P ops R o v a w)(hR:R w w1){K:Act→World→Prop}
  (h:∀ w2,R w1 w2→K (a.put o.dst v) w2):wpOp P ops Q i K a w1:=by
 unfold Go.wpOp
 simp only[hi]
 rcases hy with⟨hw,hv⟩ | ⟨hw,rfl⟩
 ·simp only[hw,if_true]
  refine .inl ?_
  unfold Oper.wp
  rcases hv w1 hR with he | ⟨f,args,he,hc⟩
  ·simp only[he,Oper.upon];exact h _ (hrefl _)
  ·simp only[he,Oper.upon]
   refine Calls.mono hc fun e w2 ⟨h1,h2⟩=>?_
   subst h1
   exact h _ h2
 ·simp only[hw,Bool.false_eq_true,if_false];exact h _ (hrefl _)
theorem Gives.of_same{o:Oper}{v:Value}{a a':Act}{w:World}(hy:Gives P ops R o v a w)(he:execOp a'.eval o=execOp a.eval o)
  (hw:Region.wanted o (yielded ops a'.tmps)=Region.wanted o (yielded ops a.tmps)):Gives P ops R o v a' w:=by
 unfold Gives VN at *
 rw[he,hw]
 exact hy
theorem Gives.later(ht:∀ a b c,R a b→R b c→R a c){o:Oper}{v:Value}{a:Act}{w w':World}(hy:Gives P ops R o v a w)(hR:R w w'):Gives P ops R o v a w' :=
 hy.imp (fun⟨h1,h2⟩=>⟨h1,fun w1 h=>h2 w1 (ht _ _ _ hR h)⟩) id
theorem OG{j:Nat}{oi oj:Oper}{v:Value}(hj:ops[j]?=some oj)(hap:oi.apart ops oj=true)(hsi:∀ cs b,oi.op≠.select cs b)(hsj:∀ cs b,oj.op≠.select cs b)
  (hQ:∀ c a w,Q (.panic c) (a.put oi.dst v) w→Q (.panic c) a w) {K:Act→World→Prop} {a:Act} {w:World} (h:wpOp P ops Q j K (a.put oi.dst v) w) :
  wpOp P ops Q j (fun a' w'=>(∀ w0,Gives P ops R oi v a w0→Gives P ops R oi v a' w0)∧K (a'.put oi.dst v) w') a w:=by
 obtain⟨h1,h2,h3⟩:=Oper.apart_spec hap
 have keep:∀ u w0,Gives P ops R oi v a w0→Gives P ops R oi v (a.put oj.dst u) w0:=fun u w0 hy=>hy.of_same (execOp_put oi hsi a oj.dst u h3) (wanted_put oi a oj.dst u h3)
 have keepD:∀ d u w0,Gives P ops R oi v a w0→Gives P ops R oi v (({ a with defers:=d::a.defers }:Act).put oj.dst u) w0:=fun d u w0 hy =>
  (hy.of_same (a':={ a with defers:=d::a.defers }) rfl rfl).of_same (execOp_put oi hsi _ oj.dst u h3) (wanted_put oi _ oj.dst u h3)
 unfold wpOp at *
 simp only[hj] at *
 rw[wanted_put oj a oi.dst v h1] at h
 by_cases hw:Region.wanted oj (yielded ops a.tmps)=true
 ·simp only[hw,if_true] at h ⊢
  rcases h with h | ⟨hasks,hlets⟩
  case inr=>exact .inr ⟨by unfold Oper.asks at *;rw[execOp_put oj hsj a oi.dst v h1] at hasks;exact hasks,hlets⟩
  refine .inl ?_
  unfold Oper.wp at *
  rw[execOp_put oj hsj a oi.dst v h1] at h
  generalize (execOp a.eval oj).run P w=r at *
  cases r with
  | ok n w' =>
   cases n <;> simp only[Oper.upon] at h ⊢
   case value u=>exact⟨keep u,by rw[←Act.put_comm a v u h2];exact h⟩
   case skip=>exact⟨keep _,by rw[←Act.put_comm a v undef h2];exact h⟩
   case defer d=>exact⟨keepD d _,by rw[←Act.put_comm _ v undef h2,←Act.put_defers];exact h⟩
   case enter f args =>
    refine Calls.mono h fun e w'' he=>?_
    cases e with
    | returned u=>exact⟨keep u,by rw[←Act.put_comm a v u h2];exact he⟩
    | panicked c=>exact hQ _ _ _ he
    | outgrown=>exact he
   case row row args=>exact Rows.mono h fun u w'' he=>⟨keep u,by rw[←Act.put_comm a v u h2];exact he⟩
  | halt x w' =>
   cases x <;> simp only[Oper.upon] at h ⊢
   case panic u=>exact hQ _ _ _ h
 ·simp only[hw,Bool.false_eq_true,if_false] at h ⊢
  exact⟨keep _,by rw[←Act.put_comm a v undef h2];exact h⟩
theorem Fa(hrefl:∀ a,R a a)(ht:∀ a b c,R a b→R b c→R a c){i:Nat}{oi:Oper}{v:Value}(hi:ops[i]?=some oi)(hsel:∀ (j:Nat) (o:Oper) cs b,ops[j]?=some o→o.op≠.select cs b)
  (hQ:∀ c a w,Q (.panic c) (a.put oi.dst v) w→Q (.panic c) a w) (hit:i≠t) (hn:ops.size≤t∨needs md ops i ops.size t=true):∀ (fuel:Nat) (listed:Array Bool) (a:Act) (w:World),Cl md ops listed →
   (∀ j oj,ops[j]?=some oj→j≠i→listed.getD j true=false→(∀ e∈oj.after,Region.binds md e=true→e.on≠i)→oi.apart ops oj=true) →
   i∈Region.ready md ops listed→Gives P ops R oi v a w →
   kT P md ops Q R t fuel (listed.setIfInBounds i true) (a.put oi.dst v) w→kT P md ops Q R t (fuel+1) listed a w:=by
 intro fuel
 induction fuel with
 | zero =>
  intro listed a w _ _ hr hy H w1 hw1
  refine⟨fun h=>(by rw[h] at hr;cases hr),fun j hj=>?_⟩
  by_cases hji:j=i
  ·subst hji
   exact hy.wpOp hrefl hi hw1 fun w2 h2=>⟨fun _=>h2,fun w3 h3=>H w3 (ht _ _ _ hw1 (ht _ _ _ h2 h3))⟩
  ·have:=ready_mono hj hji
   rw[(H w (hrefl _)).1] at this
   cases this
 | succ fuel ih =>
  intro listed a w hcl hfree hr hy H w1 hw1
  refine⟨fun h=>(by rw[h] at hr;cases hr),fun j hj=>?_⟩
  by_cases hji:j=i
  ·subst hji
   exact hy.wpOp hrefl hi hw1 fun w2 h2=>⟨fun _=>h2,kT.later ht H (ht _ _ _ hw1 h2)⟩
  ·have h1:=(H w1 hw1).2 j (ready_mono hj hji)
   obtain⟨hjun,oj,hoj,hall⟩:=mem_ready.1 hj
   have hjt:j≠t:=fun h=>by
    subst h
    rcases hn with hn | hn
    ·have:=(Array.getElem?_eq_some_iff.1 hoj).1;omega
    ·have h5:=zX hcl _ _ _ hoj hall hn
     have h6:=(mem_ready.1 hr).1
     rcases Nat.lt_or_ge i listed.size with h' | h'
     ·simp[h'] at h5 h6;rw[h6] at h5;cases h5
     ·simp[Array.getElem?_eq_none h'] at h5
   have hnot:∀ e∈oj.after,Region.binds md e=true→e.on≠i:=fun e he hb heq=>by
    have h1:=hall e he hb
    have h0:=(mem_ready.1 hr).1
    rw[heq] at h1
    rcases Nat.lt_or_ge i listed.size with h' | h'
    ·simp[h'] at h0 h1;rw[h0] at h1;cases h1
    ·simp[Array.getElem?_eq_none h'] at h1
   have h2:=OG (R:=R) hoj (hfree j oj hoj hji hjun hnot) (fun cs b=>hsel i oi cs b hi) (fun cs b=>hsel j oj cs b hoj) hQ h1
   have hfree':∀ k ok,ops[k]?=some ok→k≠i→(listed.setIfInBounds j true).getD k true=false →
     (∀ e∈ok.after,Region.binds md e=true→e.on≠i)→oi.apart ops ok=true:=fun k ok hk hki hun hno=>by
    refine hfree k ok hk hki ?_ hno
    by_cases hjk:j=k
    ·subst hjk;exact hjun
    ·rw[getD_set_ne true hjk] at hun;exact hun
   refine wpOp_mono (fun a' w' h3=>⟨h3.2.1,ih (listed.setIfInBounds j true) a' w' (hcl.step hj) hfree' (ready_mono hr (Ne.symm hji)) (h3.1 _ (hy.later ht (ht _ _ _ hw1 (h3.2.1 hjt)))) ?_⟩) h2
   rw[Array.setIfInBounds_comm _ _ hji]
   exact h3.2.2
end
def Later(w w':World):Prop:=Below w.heap.size w w'
theorem Later.refl(w:World):Later w w:=Below.refl _ _
theorem Later.trans(a b c:World)(h:Later a b)(k:Later b c):Later a c:=Below.trans h (Below.mono k h.size)
class jv (R:World→World→Prop):Prop where
 refl:∀ a,R a a
 trans:∀ a b c,R a b→R b c→R a c
 later:∀ a b,Later a b→R a b
instance am0:jv Later:=⟨Later.refl,Later.trans,fun _ _ h=>h⟩
section
variable {P:Program} {ops:Array Oper} {Q:Exit→Act→World→Prop} {md:Region.Mode} {t:Nat} {R:World→World→Prop}
theorem NK{listed:Array Bool}{i:Nat}(hc:(uU md ops listed&&(decide (ops.size≤t)||needs md ops i ops.size t)&&decide (i≠t))=true):i≠t:=by
 simp only[Bool.and_eq_true,decide_eq_true_eq] at hc;exact hc.2
theorem DK{listed:Array Bool}{i:Nat}(hc:(uU md ops listed&&(decide (ops.size≤t)||needs md ops i ops.size t)&&decide (i≠t))=true):ops.size≤t∨needs md ops i ops.size t=true:=by
 simp only[Bool.and_eq_true,Bool.or_eq_true,decide_eq_true_eq] at hc;exact hc.1.2
theorem NM{listed:Array Bool}{i:Nat}(hc:(uU md ops listed&&(decide (ops.size≤t)||needs md ops i ops.size t)&&decide (i≠t))=true):Cl md ops listed:=by
 simp only[Bool.and_eq_true] at hc;exact Cl.ofB hc.1.1
theorem kR[hR:jv R]{i:Nat}{oi:Oper}{v:Value}{fuel:Nat}{listed:Array Bool}{a:Act}{w:World}(hi:ops[i]?=some oi)
  (hs:Region.noSelect ops=true) (hf:Region.free md ops listed i=true) (hr:(Region.ready md ops listed).contains i=true) (hc:(uU md ops listed&&(decide (ops.size≤t)||needs md ops i ops.size t)&&decide (i≠t))=true)
  (hQ:∀ c a w,Q (.panic c) (a.put oi.dst v) w→Q (.panic c) a w) (hw:Region.wanted oi (yielded ops a.tmps)=true) (hy:∀ w1,R w w1→(execOp a.eval oi).run P w1=.ok (.value v) w1)
  (h:kT P md ops Q R t fuel (listed.setIfInBounds i true) (a.put oi.dst v) w):kT P md ops Q R t (fuel+1) listed a w :=
 Fa hR.refl hR.trans hi (Region.noSelect_spec hs) hQ (NK hc) (DK hc) fuel listed a w (NM hc) (Region.free_spec hi hf) (by simpa using hr) (.inl ⟨hw,fun w1 h1=>.inl (hy w1 h1)⟩) h
theorem acw[hR:jv R]{i:Nat}{oi:Oper}{fuel:Nat}{listed:Array Bool}{a:Act}{w:World}(hi:ops[i]?=some oi)
  (hs:Region.noSelect ops=true) (hf:Region.free md ops listed i=true) (hr:(Region.ready md ops listed).contains i=true) (hc:(uU md ops listed&&(decide (ops.size≤t)||needs md ops i ops.size t)&&decide (i≠t))=true)
  (hQ:∀ c a w,Q (.panic c) (a.put oi.dst undef) w→Q (.panic c) a w) (hw:Region.wanted oi (yielded ops a.tmps)=false)
  (h:kT P md ops Q R t fuel (listed.setIfInBounds i true) (a.put oi.dst undef) w):kT P md ops Q R t (fuel+1) listed a w :=
 Fa hR.refl hR.trans hi (Region.noSelect_spec hs) hQ (NK hc) (DK hc) fuel listed a w (NM hc) (Region.free_spec hi hf) (by simpa using hr) (.inr ⟨hw,rfl⟩) h
theorem acy[hR:jv R]{i:Nat}{oi:Oper}{v:Value}{fuel:Nat}{listed:Array Bool}{a:Act}{w:World}{f:FuncId}{args:Array Value}(hi:ops[i]?=some oi)
  (hs:Region.noSelect ops=true) (hf:Region.free md ops listed i=true) (hr:(Region.ready md ops listed).contains i=true) (hc:(uU md ops listed&&(decide (ops.size≤t)||needs md ops i ops.size t)&&decide (i≠t))=true)
  (hQ:∀ c a w,Q (.panic c) (a.put oi.dst v) w→Q (.panic c) a w) (hw:Region.wanted oi (yielded ops a.tmps)=true) (he:∀ w1,(execOp a.eval oi).run P w1=.ok (.enter f args) w1)
  (hy:∀ w1,R w w1→Calls P f args w1 (bM w1 v))
  (h:kT P md ops Q R t fuel (listed.setIfInBounds i true) (a.put oi.dst v) w):kT P md ops Q R t (fuel+1) listed a w :=
 Fa hR.refl hR.trans hi (Region.noSelect_spec hs) hQ (NK hc) (DK hc) fuel listed a w (NM hc) (Region.free_spec hi hf) (by simpa using hr) (.inl ⟨hw,fun w1 h1=>.inr ⟨f,args,he w1,(hy w1 h1).mono fun _ _ k=>⟨k.1,hR.later _ _ k.2⟩⟩⟩) h
theorem aW{i:Nat}{oi:Oper}{fuel:Nat}{listed:Array Bool}{a:Act}{w:World}(hr:Region.ready md ops listed=[i])(hi:ops[i]?=some oi)
  (h:∀ w1,R w w1→∀ K:Act→World→Prop,Shut (∀ a' w',(i≠t→R w1 w')→kT P md ops Q R t fuel (listed.setIfInBounds i true) a' w'→K a' w')→if Region.wanted oi (yielded ops a.tmps)=true then Oper.wp P oi a w1 K Q else K (a.put oi.dst undef) w1) :
  kT P md ops Q R t (fuel+1) listed a w:=fun w1 h1=>by
 refine⟨fun h0=>(by rw[hr] at h0;cases h0),fun j hj=>?_⟩
 rw[hr,List.mem_singleton] at hj
 subst hj
 exact wpOp_step hi (fun K' hK=>h w1 h1 K' (fun a' w' k1 k2=>hK a' w' ⟨k1,k2⟩))
theorem CV{i j:Nat}{oi oj:Oper}{fuel:Nat}{listed:Array Bool}{a:Act}{w:World}(hr:Region.ready md ops listed=[i,j])(hi:ops[i]?=some oi)(hj:ops[j]?=some oj)
  (h1:∀ w1,R w w1→∀ K:Act→World→Prop,Shut (∀ a' w',(i≠t→R w1 w')→kT P md ops Q R t fuel (listed.setIfInBounds i true) a' w'→K a' w')→if Region.wanted oi (yielded ops a.tmps)=true then Oper.wp P oi a w1 K Q else K (a.put oi.dst undef) w1)
  (h2:∀ w1,R w w1→∀ K:Act→World→Prop,Shut (∀ a' w',(j≠t→R w1 w')→kT P md ops Q R t fuel (listed.setIfInBounds j true) a' w'→K a' w')→if Region.wanted oj (yielded ops a.tmps)=true then Oper.wp P oj a w1 K Q else K (a.put oj.dst undef) w1) :
  kT P md ops Q R t (fuel+1) listed a w:=fun w1 hw1=>by
 refine⟨fun h0=>(by rw[hr] at h0;cases h0),fun k hk=>?_⟩
 rw[hr,List.mem_cons,List.mem_singleton] at hk
 rcases hk with rfl | rfl
 ·exact wpOp_step hi (fun K' hK=>h1 w1 hw1 K' (fun a' w' k1 k2=>hK a' w' ⟨k1,k2⟩))
 ·exact wpOp_step hj (fun K' hK=>h2 w1 hw1 K' (fun a' w' k1 k2=>hK a' w' ⟨k1,k2⟩))
theorem aQ{listed:Array Bool}{a:Act}{w:World}(hr:Region.ready md ops listed=[])(h:∀ w1,R w w1→Q .normal a w1):∀ fuel,kT P md ops Q R t fuel listed a w
 | 0=>fun w1 h1=>⟨hr,h w1 h1⟩
 | _+1=>fun w1 h1=>⟨fun _=>h w1 h1,by rw[hr];simp⟩
theorem aH[hR:jv R](t:Nat){id:Nat}{a:Act}{w:World}(hm:P.follows .mixedOrders=true)
  (h:kT P .any ops Q R t ops.size (Array.replicate ops.size false) a w.drew):(Code.region id ops true).wp P Q a w :=
 wp_region_any hm (KH hR.refl _ _ _ _ h)
theorem iZ[hR:jv R](i:Nat){oi:Oper}(v:Value){fuel:Nat}{listed:Array Bool}{a:Act}{w:World}(hi:ops[i]?=some oi)(hy:∀ w1,R w w1→(execOp a.eval oi).run P w1=.ok (.value v) w1)
  (h:kT P md ops Q R t fuel (listed.setIfInBounds i true) (a.put oi.dst v) w) (hw:Region.wanted oi (yielded ops a.tmps)=true:=by rfl)
  (hc:(Region.noSelect ops&&(Region.free md ops listed i&&((Region.ready md ops listed).contains i&&(uU md ops listed&&(decide (ops.size≤t)||needs md ops i ops.size t)&&decide (i≠t)))))=true:=by kernel_rfl)
  (hQ:∀ c a w,Q (.panic c) (a.put oi.dst v) w→Q (.panic c) a w:=by exact fun _ _ _ h=>h):kT P md ops Q R t (fuel+1) listed a w:=by
 rw[Bool.and_eq_true,Bool.and_eq_true,Bool.and_eq_true] at hc
 exact kR hi hc.1 hc.2.1 hc.2.2.1 hc.2.2.2 hQ hw hy h
theorem iq[hR:jv R](i:Nat){oi:Oper}{fuel:Nat}{listed:Array Bool}{a:Act}{w:World}(hi:ops[i]?=some oi)
  (h:kT P md ops Q R t fuel (listed.setIfInBounds i true) (a.put oi.dst undef) w) (hw:Region.wanted oi (yielded ops a.tmps)=false:=by rfl)
  (hc:(Region.noSelect ops&&(Region.free md ops listed i&&((Region.ready md ops listed).contains i&&(uU md ops listed&&(decide (ops.size≤t)||needs md ops i ops.size t)&&decide (i≠t)))))=true:=by kernel_rfl)
  (hQ:∀ c a w,Q (.panic c) (a.put oi.dst undef) w→Q (.panic c) a w:=by exact fun _ _ _ h=>h):kT P md ops Q R t (fuel+1) listed a w:=by
 rw[Bool.and_eq_true,Bool.and_eq_true,Bool.and_eq_true] at hc
 exact acw hi hc.1 hc.2.1 hc.2.2.1 hc.2.2.2 hQ hw h
def Pl(_:List Nat)(p:Prop):Prop:=p
theorem pl(l:List Nat){p:Prop}(h:Pl l p):p:=h
theorem dI{p:Prop}(h:p):Pl [] p:=h
theorem gU[hR:jv R]{i:Nat}{l:List Nat}{oi:Oper}(v:Value){fuel:Nat}{listed:Array Bool}{a:Act}{w:World}(hi:ops[i]?=some oi)(hy:∀ w1,R w w1→(execOp a.eval oi).run P w1=.ok (.value v) w1)
  (h:Pl l (kT P md ops Q R t fuel (listed.setIfInBounds i true) (a.put oi.dst v) w)) (hw:Region.wanted oi (yielded ops a.tmps)=true:=by rfl)
  (hc:(Region.noSelect ops&&(Region.free md ops listed i&&((Region.ready md ops listed).contains i&&(uU md ops listed&&(decide (ops.size≤t)||needs md ops i ops.size t)&&decide (i≠t)))))=true:=by kernel_rfl)
  (hQ:∀ c a w,Q (.panic c) (a.put oi.dst v) w→Q (.panic c) a w:=by exact fun _ _ _ h=>h):Pl (i::l) (kT P md ops Q R t (fuel+1) listed a w) :=
 iZ i v hi hy h hw hc hQ
theorem CW[hR:jv R](i:Nat){oi:Oper}(f:FuncId)(args:Array Value)(v:Value){fuel:Nat}{listed:Array Bool}{a:Act}{w:World}(hi:ops[i]?=some oi)
  (he:∀ w1,(execOp a.eval oi).run P w1=.ok (.enter f args) w1) (hy:∀ w1,R w w1→Calls P f args w1 (bM w1 v))
  (h:kT P md ops Q R t fuel (listed.setIfInBounds i true) (a.put oi.dst v) w) (hw:Region.wanted oi (yielded ops a.tmps)=true:=by rfl)
  (hc:(Region.noSelect ops&&(Region.free md ops listed i&&((Region.ready md ops listed).contains i&&(uU md ops listed&&(decide (ops.size≤t)||needs md ops i ops.size t)&&decide (i≠t)))))=true:=by kernel_rfl)
  (hQ:∀ c a w,Q (.panic c) (a.put oi.dst v) w→Q (.panic c) a w:=by exact fun _ _ _ h=>h):kT P md ops Q R t (fuel+1) listed a w:=by
 rw[Bool.and_eq_true,Bool.and_eq_true,Bool.and_eq_true] at hc
 exact acy hi hc.1 hc.2.1 hc.2.2.1 hc.2.2.2 hQ hw he hy h
theorem eA{α:Type}{l:List α}{i:Nat}(h:i<l.toArray.size):l.toArray[i]=l[i]'(by simpa using h):=List.getElem_toArray h
theorem eB{α:Type}{a:α}{l:List α}(w:0<(a::l).length):(a::l)[0]=a:=rfl
theorem eC{α:Type}{a:α}{l:List α}{i:Nat}(w:i+1<(a::l).length):(a::l)[i+1]=l[i]'(Nat.lt_of_succ_lt_succ w):=rfl
theorem eD{α:Type}{l:List α}{i:Nat}{a:α}:l.toArray.setIfInBounds i a=(l.set i a).toArray:=List.setIfInBounds_toArray l i a
theorem eE{α:Type}{a b:α}{l:List α}:(a::l).set 0 b=b::l:=List.set_cons_zero
theorem eF{α:Type}{a b:α}{l:List α}{n:Nat}:(a::l).set (n+1) b=a::l.set n b:=List.set_cons_succ
end
attribute [irreducible] Pl
end
section
open Go.RowKit
theorem Fb{P:Program}(d:Nat)(e:TypeId)(q:IntKind)(he:P.underlying e=some (.int q))(xs ys:List Int)(w:World):∀ (l:List Nat),(∀ i∈l,i<xs.length∧i<ys.length) →
  (Op.eqItems (d+1) e 1 (xs.map (Value.int q)).toArray (ys.map (Value.int q)).toArray l).run P w=.ok (l.all fun i=>xs.getD i 0==ys.getD i 0) w
 | [],_=>by simp[Op.eqItems]
 | i::l,h=>by
  obtain⟨h1,h2⟩:=h i (by simp)
  have ih:=Fb d e q he xs ys w l (fun j hj=>h j (by simp[hj]))
  have px:(part e (xs.map (Value.int q)).toArray (i*1)).run P w=.ok (.int q (xs.getD i 0)) w:=by
   simp[part,isAgg,run_underlying he,List.getD,List.getElem?_eq_getElem h1]
  have py:(part e (ys.map (Value.int q)).toArray (i*1)).run P w=.ok (.int q (ys.getD i 0)) w:=by
   simp[part,isAgg,run_underlying he,List.getD,List.getElem?_eq_getElem h2]
  have pe:=run_equalIn_int (P:=P) w d e q q (xs.getD i 0) (ys.getD i 0) he
  simp only[Op.eqItems,Sem.run_bind,px,py,pe,Result.andThen_ok,List.all_cons]
  cases hb:(xs.getD i 0==ys.getD i 0)
  ·simp
  ·simpa using ih
theorem UR:∀ (xs ys:List Int),xs.length=ys.length→((List.range xs.length).all fun i=>xs.getD i 0==ys.getD i 0)=decide (xs=ys):=by
 intro xs ys h
 rw[Bool.eq_iff_iff]
 simp only[List.all_eq_true,List.mem_range,beq_iff_eq,decide_eq_true_eq]
 constructor
 ·intro hh
  apply List.ext_getElem h
  intro i h1 h2
  have:=hh i h1
  simpa [List.getD,List.getElem?_eq_getElem h1,List.getElem?_eq_getElem h2] using this
 ·rintro rfl i _;rfl
theorem pF{P:Program}(d:Nat){t e:TypeId}{n:Nat}{i:TypeInfo}{q:IntKind}(hu:P.underlying t=some (.array n e))(he:P.underlying e=some (.int q))(hi:P.info? e=some i)(hc:P.cellsOf e=1)
  (xs ys:List Int) (hx:xs.length=n) (hy:ys.length=n) (w:World) :
  (Op.equalIn (d+2) t (.agg (xs.map (Value.int q)).toArray) (.agg (ys.map (Value.int q)).toArray)).run P w=.ok (decide (xs=ys)) w:=by
 rw[run_equalIn_array (w:=w) (d+1) _ _ hu hi,hc,Fb d e q he xs ys w _ (fun i hi=>by simp at hi;omega),←hx,UR xs ys (hx.trans hy.symm)]
def pos{κ:Type}[DecidableEq κ](k:κ):List κ→Option Nat
 | []=>none
 | a::r=>if k=a then some 0 else (pos k r).map (·+1)
def look{κ:Type}[DecidableEq κ](k:κ):List (κ×Value)→Option Value
 | []=>none
 | p::r=>if k=p.1 then some p.2 else look k r
def mD{κ:Type}[DecidableEq κ](k:κ)(v:Value):List (κ×Value)→List (κ×Value)
 | []=>[(k,v)]
 | p::r=>if k=p.1 then (k,v)::r else p::mD k v r
structure sK{κ:Type}[DecidableEq κ](P:Program)(kt:TypeId)(enc:κ→Value):Prop where
 check:∀ (k:κ) (e:Bool) (w:World),(Instr.checkKey e 10000 kt (enc k)).run P w=.ok () w
 find:∀ (k:κ) (ks:List κ) (es:List MapEntry) (w:World),es.map (·.key)=ks.map enc →
  (Instr.findKey kt (enc k) es).run P w=.ok ((pos k ks).bind fun i=>(es[i]?).map fun e=>(i,e.val)) w
 bits:∀ k:κ,Instr.sameBits 10000 (enc k) (enc k)=true
def aK{κ:Type}(w:World)(b:Nat)(enc:κ→Value)(kvs:List (κ×Value)):Prop :=
 ∃ es clock,w.heap[b]?=some (.map es clock)∧es.toList.map (fun e=>(e.key,e.val))=kvs.map (fun p=>(enc p.1,p.2))
section
variable {κ:Type} {w:World} {b:Nat} {enc:κ→Value} {kvs:List (κ×Value)}
theorem aK.lt(h:aK w b enc kvs):b<w.heap.size:=by obtain⟨es,c,hb,_⟩:=h;exact(Array.getElem?_eq_some_iff.1 hb).1
theorem aK.same{w':World}(h:aK w b enc kvs)(e:w'.heap[b]?=w.heap[b]?):aK w' b enc kvs:=by
 obtain⟨es,c,hb,hk⟩:=h;exact⟨es,c,e.trans hb,hk⟩
theorem aK.other(h:aK w b enc kvs)(a:Addr)(v:Value)(hne:b≠a.block):aK (w.setCell a v) b enc kvs:=h.same (heap_setCell_other w a b v hne)
theorem aK.alloc(h:aK w b enc kvs)(o:Obj):aK (w.alloc o) b enc kvs:=h.same (Below.heap_alloc w o b h.lt)
theorem aK.below{w':World}{B:Nat}(h:aK w b enc kvs)(hb:Below B w w')(hlt:b<B):aK w' b enc kvs:=h.same (hb.block b hlt)
theorem aK.kept{w':World}(h:aK w b enc kvs)(hb:Below w.heap.size w w'):aK w' b enc kvs:=h.below hb h.lt
theorem aK.setRow(h:aK w b enc kvs)(g:Nat)(c:Array Value)(hne:b≠g):aK (w.setRow g c) b enc kvs:=h.same (Go.setRow_other w g b c hne)
theorem aK.new(w:World)(enc:κ→Value):aK (w.alloc (.map #[] 0)) w.heap.size enc []:=⟨#[],0,heap_alloc_new w _,rfl⟩
theorem aK.new'(h:b=w.heap.size)(enc:κ→Value):aK (w.alloc (.map #[] 0)) b enc []:=h▸aK.new w enc
variable [DecidableEq κ]
theorem DL(k:κ):∀ (kvs:List (κ×Value)) (es:List MapEntry),es.map (fun e=>(e.key,e.val))=kvs.map (fun p=>(enc p.1,p.2)) →
  ((pos k (kvs.map (·.1))).bind fun i=>(es[i]?).map fun e=>(i,e.val)).map (·.2)=look k kvs
 | [],es,h=>by simp[pos,look]
 | p::r,[],h=>by simp at h
 | p::r,e::es,h=>by
  simp only[List.map_cons,List.cons.injEq,Prod.mk.injEq] at h
  simp only[List.map_cons,pos,look]
  by_cases hk:k=p.1
  ·simp[hk,h.1.2]
  ·simp only[hk,if_false]
   rw[←DL k r es h.2]
   cases pos k (r.map (·.1)) <;> simp[Option.map_map,Function.comp_def]
omit [DecidableEq κ] in
theorem NP{es:List MapEntry}(h:es.map (fun e=>(e.key,e.val))=kvs.map (fun p=>(enc p.1,p.2))):es.map (·.key)=(kvs.map (·.1)).map enc:=by
 have:=congrArg (List.map Prod.fst) h
 simpa [List.map_map,Function.comp_def] using this
theorem aK.qR{P:Program}{t kt e:TypeId}(h:aK w b enc kvs)(K:sK P kt enc)(ht:P.underlying t=some (.map kt e)){z:Value}(hz:(zeroValue e).run P w=.ok z w)(k:κ) :
  (Instr.lookup t (.map (some b)) (enc k) true).run P w=.ok (.tuple #[(look k kvs).getD z,.bool (look k kvs).isSome]) w:=by
 obtain⟨es,c,hb,hk⟩:=h
 have hf:=K.find k (kvs.map (·.1)) es.toList w (NP hk)
 have hl:=DL (enc:=enc) k kvs es.toList hk
 generalize ((pos k (kvs.map (·.1))).bind fun i=>(es.toList[i]?).map fun e=>(i,e.val))=o at hf hl
 rw[←hl]
 cases o with
 | none=>simp[Instr.lookup,run_underlying ht,MapKept.run_getObj_map hb,K.check,hf,hz,Result.andThen]
 | some x=>simp[Instr.lookup,run_underlying ht,MapKept.run_getObj_map hb,K.check,hf,Result.andThen]
theorem lJ{P:Program}{t kt e:TypeId}(h:aK w b enc kvs)(K:sK P kt enc)(ht:P.underlying t=some (.map kt e)){z:Value}(hz:(zeroValue e).run P w=.ok z w)(k:κ) :
  (Instr.lookup t (.map (some b)) (enc k) false).run P w=.ok ((look k kvs).getD z) w:=by
 obtain⟨es,c,hb,hk⟩:=h
 have hf:=K.find k (kvs.map (·.1)) es.toList w (NP hk)
 have hl:=DL (enc:=enc) k kvs es.toList hk
 generalize ((pos k (kvs.map (·.1))).bind fun i=>(es.toList[i]?).map fun e=>(i,e.val))=o at hf hl
 rw[←hl]
 cases o with
 | none=>simp[Instr.lookup,run_underlying ht,MapKept.run_getObj_map hb,K.check,hf,hz,Result.andThen]
 | some x=>simp[Instr.lookup,run_underlying ht,MapKept.run_getObj_map hb,K.check,hf,Result.andThen]
theorem kV(k:κ)(v:Value):∀ (kvs:List (κ×Value)),look k kvs=none→mD k v kvs=kvs++[(k,v)]
 | [],_=>rfl
 | p::r,h=>by
  simp only[look] at h
  by_cases hk:k=p.1
  ·simp[hk] at h
  ·simp only[hk,if_false] at h
   simp[mD,hk,kV k v r h]
theorem DN(k a:κ)(v:Value):∀ (kvs:List (κ×Value)),look a (mD k v kvs)=if a=k then some v else look a kvs
 | []=>by simp[mD,look]
 | p::r=>by
  simp only[mD]
  by_cases hk:k=p.1
  ·simp only[hk,if_true,look]
   by_cases ha:a=p.1 <;> simp[ha]
  ·simp only[hk,if_false,look]
   by_cases ha:a=p.1
   ·have:¬ a=k:=fun e=>hk (e▸ha)
    simp[ha]
    intro e;exact absurd e.symm hk
   ·simp only[ha,if_false];exact DN k a v r
theorem aK.sN{P:Program}{t kt e:TypeId}(h:aK w b enc kvs)(K:sK P kt enc)(ht:P.underlying t=some (.map kt e))(k:κ)(v:Value) :
  ∃ w',(Instr.mapUpdate t (.map (some b)) (enc k) v).run P w=.ok () w'∧aK w' b enc (mD k v kvs)∧(∀ i,i≠b→w'.heap[i]?=w.heap[i]?)∧w'.heap.size=w.heap.size∧(∀ B,B≤b→Below B w w'):=by
 obtain⟨es,c,hb,hk⟩:=h
 have hf:=K.find k (kvs.map (·.1)) es.toList w (NP hk)
 have fin:∀ es' c',(Instr.mapUpdate t (.map (some b)) (enc k) v).run P w=.ok () (ChangeMaps.setBlock w b (.map es' c'))→es'.toList.map (fun e=>(e.key,e.val))=(mD k v kvs).map (fun p=>(enc p.1,p.2)) →
   ∃ w',(Instr.mapUpdate t (.map (some b)) (enc k) v).run P w=.ok () w'∧aK w' b enc (mD k v kvs)∧(∀ i,i≠b→w'.heap[i]?=w.heap[i]?)∧w'.heap.size=w.heap.size∧(∀ B,B≤b→Below B w w'):=fun es' c' hrun he =>
  ⟨_,hrun,⟨es',c',ChangeMaps.heap_setBlock_same hb _,he⟩,fun i hi=>ChangeMaps.heap_setBlock_other hb _ hi,by simp[ChangeMaps.setBlock],
   fun B hB=>⟨rfl,rfl,rfl,by simp[ChangeMaps.setBlock],fun i hi=>ChangeMaps.heap_setBlock_other hb _ (by omega)⟩⟩
 cases ho:pos k (kvs.map (·.1)) with
 | none =>
  rw[ho] at hf
  refine fin (es.push { key:=enc k,val:=v,born:=c }) (c+1) ?_ ?_
  ·simp only[Option.bind_none] at hf
   simp[Instr.mapUpdate,run_underlying ht,MapKept.run_getObj_map hb,K.check,hf,MapKept.run_setObj_map _ hb,Result.andThen,ChangeMaps.setBlock]
  ·have hn:look k kvs=none:=by rw[←DL (enc:=enc) k kvs es.toList hk,ho];rfl
   rw[kV k v kvs hn];simp[hk]
 | some i =>
  rw[ho] at hf
  have hpos:∀ (kvs:List (κ×Value)) (es:List MapEntry) (i:Nat),es.map (fun e=>(e.key,e.val))=kvs.map (fun p=>(enc p.1,p.2))→pos k (kvs.map (·.1))=some i →
    (∃ e0,es[i]?=some e0∧e0.key=enc k)∧(es.modify i fun e=>{ e with key:=enc k,val:=v }).map (fun e=>(e.key,e.val))=(mD k v kvs).map (fun p=>(enc p.1,p.2)):=by
   intro kvs
   induction kvs with
   | nil=>intro es i _ h;simp[pos] at h
   | cons p r ih =>
    intro es i he h
    cases es with
    | nil=>simp at he
    | cons e0 es =>
     simp only[List.map_cons,List.cons.injEq,Prod.mk.injEq] at he
     simp only[List.map_cons,pos] at h
     by_cases hk:k=p.1
     ·simp only[hk,if_true,Option.some.injEq] at h
      subst h
      exact⟨⟨e0,by simp,by rw[he.1.1,hk]⟩,by simp[mD,hk,he.2]⟩
     ·simp only[hk,if_false,Option.map_eq_some_iff] at h
      obtain⟨j,hj,rfl⟩:=h
      obtain⟨⟨e1,h1,h2⟩,h3⟩:=ih es j he.2 hj
      exact⟨⟨e1,by simpa using h1,h2⟩,by simp[mD,hk,he.1,h3]⟩
  obtain⟨⟨e0,h0,h1⟩,h2⟩:=hpos kvs es.toList i hk ho
  refine fin (es.modify i fun e=>{ e with key:=enc k,val:=v }) c ?_ ?_
  ·have h0':es[i]?=some e0:=by simpa using h0
   simp only[Option.bind_some,h0,Option.map_some] at hf
   simp[Instr.mapUpdate,run_underlying ht,MapKept.run_getObj_map hb,K.check,hf,h0',h1,Instr.keyThatStays,K.bits,MapKept.run_setObj_map _ hb,Result.andThen,ChangeMaps.setBlock]
  ·rw[Array.toList_modify];exact h2
omit [DecidableEq κ] in
theorem aK.zQ{P:Program}{t kt e:TypeId}(h:aK w b enc kvs)(ht:P.underlying t=some (.map kt e))(ty:TypeId)(n:Nat)(hn:kvs.length=n) :
  (Builtin.len_ #[t] ty #[.map (some b)]).run P w=.ok (.int .i64 (n:Nat)) w:=by
 obtain⟨es,c,hb,hk⟩:=h
 have hl:es.size=n:=by rw[←hn];simpa using congrArg List.length hk
 simp[Builtin.len_,run_underlying ht,MapKept.run_getObj_map hb,Result.andThen,goInt,hl]
omit [DecidableEq κ] in
theorem aK.size(h:aK w b enc kvs):∃ es clock,w.heap[b]?=some (.map es clock)∧es.size=kvs.length:=by
 obtain⟨es,c,hb,hk⟩:=h
 exact⟨es,c,hb,by simpa using congrArg List.length hk⟩
end
theorem KI{κ:Type}[DecidableEq κ](enc:κ→Value)(kd:TypeDesc)(hs:∀ a b:κ,Instr.sameNow kd (enc a) (enc b)=some (decide (a=b)))(k:κ):∀ (ks:List κ) (es:List MapEntry) (i:Nat),es.map (·.key)=ks.map enc →
  Instr.findNow kd (enc k) es i=some ((pos k ks).bind fun j=>(es[j]?).map fun e=>(i+j,e.val))
 | [],es,i,h=>by
            obtain rfl:es=[]:=by simpa using h
            simp[Instr.findNow,pos]
 | a::ks,[],i,h=>by simp at h
 | a::ks,e::es,i,h=>by
  simp only[List.map_cons,List.cons.injEq] at h
  simp only[Instr.findNow,h.1,hs,pos]
  by_cases hk:k=a
  ·simp[hk]
  ·simp only[hk,decide_false,if_false]
   rw[KI enc kd hs k ks es (i+1) h.2]
   cases pos k ks <;> simp[Nat.add_assoc,Nat.add_comm 1]
theorem EI{κ:Type}[DecidableEq κ]{P:Program}{kt:TypeId}(enc:κ→Value)(hs:∀ (a b:κ) (w:World),(Op.equal kt (enc a) (enc b)).run P w=.ok (decide (a=b)) w)(k:κ)(w:World):∀ (ks:List κ) (es:List MapEntry) (i:Nat),es.map (·.key)=ks.map enc →
  (Instr.findAsking kt (enc k) es i).run P w=.ok ((pos k ks).bind fun j=>(es[j]?).map fun e=>(i+j,e.val)) w
 | [],es,i,h=>by
            obtain rfl:es=[]:=by simpa using h
            simp[Instr.findAsking,pos]
 | a::ks,[],i,h=>by simp at h
 | a::ks,e::es,i,h=>by
  simp only[List.map_cons,List.cons.injEq] at h
  simp only[Instr.findAsking,Sem.run_bind,h.1,hs,Result.andThen_ok,pos]
  by_cases hk:k=a
  ·simp[hk]
  ·simp only[hk,decide_false,if_false]
   have:=EI enc hs k w ks es (i+1) h.2
   simp only[Bool.false_eq_true,if_false]
   rw[this]
   cases pos k ks <;> simp[Nat.add_assoc,Nat.add_comm 1]
theorem Fe{κ:Type}[DecidableEq κ]{P:Program}{kt:TypeId}{kd:TypeDesc}(enc:κ→Value)(ht:P.underlying kt=some kd)(hs:∀ a b:κ,Instr.sameNow kd (enc a) (enc b)=some (decide (a=b)))
  (hc:∀ (k:κ) (e:Bool) (w:World),(Instr.checkKey e 10000 kt (enc k)).run P w=.ok () w) (hb:∀ k:κ,Instr.sameBits 10000 (enc k) (enc k)=true):sK P kt enc :=
 ⟨hc,fun k ks es w he=>by
  simp only[Instr.findKey,Sem.run_bind,run_underlying ht,Result.andThen_ok,KI enc kd hs k ks es 0 he,Nat.zero_add]
  rfl,hb⟩
theorem OH{P:Program}{kt:TypeId}{q:IntKind}(ht:P.underlying kt=some (.int q)):sK P kt (fun n:Int=>Value.int q n) :=
 Fe _ ht (fun a b=>by simp only[Instr.sameNow,if_true];congr 1) (fun k e w=>by rw[show(10000:Nat)=9999+1 from rfl,Instr.checkKey];simp[run_underlying ht]) (fun k=>by rw[show(10000:Nat)=9999+1 from rfl,Instr.sameBits];simp)
theorem Xt{P:Program}{kt:TypeId}(ht:P.underlying kt=some .bool):sK P kt (fun n:Bool=>Value.bool n) :=
 Fe _ ht (fun a b=>by simp only[Instr.sameNow];congr 1) (fun k e w=>by rw[show(10000:Nat)=9999+1 from rfl,Instr.checkKey];simp[run_underlying ht]) (fun k=>by rw[show(10000:Nat)=9999+1 from rfl,Instr.sameBits];simp)
abbrev BQ(q:IntKind)(p:Int×Int):Value:=.agg #[.int q p.1,.int q p.2]
theorem Xu{P:Program}{kt e:TypeId}{q:IntKind}{i:TypeInfo}(ht:P.underlying kt=some (.array 2 e))(he:P.underlying e=some (.int q))(hi:P.info? e=some i)(hc:P.cellsOf e=1)(hs:i.size=1):sK P kt (BQ q):=by
 have heq:∀ (a b:Int×Int) (w:World),(Op.equal kt (BQ q a) (BQ q b)).run P w=.ok (decide (a=b)) w:=fun a b w=>by
  have:=pF (P:=P) 9998 (q:=q) ht he hi hc [a.1,a.2] [b.1,b.2] rfl rfl w
  unfold Op.equal
  refine this.trans ?_
  congr 1
  rw[decide_eq_decide]
  simp[Prod.ext_iff]
 refine⟨fun k b w=>?_,fun k ks es w hes=>?_,fun k=>?_⟩
 ·have hsz:∀ w:World,(sizeOf e).run P w=.ok 1 w:=fun w=>by simp[sizeOf,typeInfo,hi,hs]
  have gen:∀ n,(Instr.checkKey b (n+2) kt (BQ q k)).run P w=.ok () w:=fun n=>by
   rw[Instr.checkKey]
   simp only[Sem.run_bind,run_underlying ht,Result.andThen_ok]
   simp[Std.Legacy.Range.forIn_eq_forIn_range',Std.Legacy.Range.size,List.range',hsz,part,isAgg,run_underlying he,Instr.checkKey,Result.andThen]
  exact gen 9998
 ·have hf:=EI (BQ q) heq k w ks es 0 hes
  simp only[Nat.zero_add] at hf
  simp only[Instr.findKey,Sem.run_bind,run_underlying ht,Result.andThen_ok]
  cases es with
  | nil =>
   obtain rfl:ks=[]:=by simpa using hes.symm
   simp[Instr.findNow,pos]
  | cons e0 es =>
   cases ks with
   | nil=>simp at hes
   | cons a ks =>
    have hn:Instr.findNow (TypeDesc.array 2 e) (BQ q k) (e0::es) 0=none:=by
     simp[Instr.findNow,Instr.sameNow]
    rw[hn];exact hf
 ·rw[show(10000:Nat)=9998+1+1 from rfl,Instr.sameBits];simp[Instr.sameBits]
end
section
def aJ(R:Nat→Nat→Bool):Nat→List Nat
 | 0=>[]
 | n+1=>if (aJ R n).any (R n) then aJ R n else aJ R n++[n]
def posR(R:Nat→Nat→Bool)(b:Nat):List Nat→Option Nat
 | []=>none
 | c::r=>if R b c then some 0 else (posR R b r).map (·+1)
def bg(R:Nat→Nat→Bool)(b:Nat):Nat:=(posR R b (aJ R 256)).getD 0
def iO(R:Nat→Nat→Bool):Nat:=(aJ R 256).length
def aX{κ:Type}[DecidableEq κ](k:Nat→κ)(b c:Nat):Bool:=decide (k b=k c)
theorem OI(R:Nat→Nat→Bool):aJ R 0=[]:=rfl
theorem jD(R:Nat→Nat→Bool)(n:Nat):aJ R (n+1)=if (aJ R n).any (R n) then aJ R n else aJ R n++[n]:=rfl
theorem lU(R:Nat→Nat→Bool):∀ n,∀ c∈aJ R n,c<n
 | 0,c,h=>by simp[aJ] at h
 | n+1,c,h=>by
  unfold aJ at h
  split at h
  ·exact Nat.lt_succ_of_lt (lU R n c h)
  ·rcases List.mem_append.1 h with h | h
   ·exact Nat.lt_succ_of_lt (lU R n c h)
   ·simp at h;omega
theorem uq(R:Nat→Nat→Bool):∀ (n i j:Nat) (_:i<j) (hj:j<(aJ R n).length),(aJ R n)[i]'(by omega)<(aJ R n)[j]
 | 0,i,j,_,hj=>by simp[aJ] at hj
 | n+1,i,j,hij,hj=>by
  by_cases h:(aJ R n).any (R n)=true
  ·have e:aJ R (n+1)=aJ R n:=by rw[jD,if_pos h]
   simp only[e] at hj ⊢
   exact uq R n i j hij hj
  ·have e:aJ R (n+1)=aJ R n++[n]:=by rw[jD,if_neg h]
   simp only[e] at hj ⊢
   rw[List.length_append,List.length_singleton] at hj
   by_cases h2:j<(aJ R n).length
   ·rw[List.getElem_append_left h2,List.getElem_append_left (by omega)]
    exact uq R n i j hij h2
   ·obtain rfl:j=(aJ R n).length:=by omega
    rw[List.getElem_append_right (Nat.le_refl _),List.getElem_append_left (by omega)]
    simp
    exact lU R n _ (List.getElem_mem _)
theorem jW(R:Nat→Nat→Bool):∀ n,(aJ R n).length≤n
 | 0=>by simp[aJ]
 | n+1=>by
  have:=jW R n
  unfold aJ
  split
  ·omega
  ·simp;omega
theorem BR(R:Nat→Nat→Bool)(n:Nat):∀ m,∃ l,aJ R (n+m)=aJ R n++l
 | 0=>⟨[],by simp⟩
 | m+1=>by
  obtain⟨l,hl⟩:=BR R n m
  by_cases h:(aJ R (n+m)).any (R (n+m))=true
  ·exact⟨l,by rw[←Nat.add_assoc,jD,if_pos h,hl]⟩
  ·exact⟨l++[n+m],by rw[←Nat.add_assoc,jD,if_neg h,hl,List.append_assoc]⟩
theorem DR{R S:Nat→Nat→Bool}:∀ n,(∀ b c,b<n→c<n→R b c=S b c)→aJ R n=aJ S n
 | 0,_=>rfl
 | n+1,h=>by
  have ih:=DR (R:=R) (S:=S) n (fun b c hb hc=>h b c (by omega) (by omega))
  have e:(aJ R n).any (R n)=(aJ S n).any (S n):=by
   rw[←ih,Bool.eq_iff_iff]
   simp only[List.any_eq_true]
   constructor
   ·rintro⟨c,hc,hR⟩;exact⟨c,hc,by rw[←h n c (by omega) (by have:=lU R n c hc;omega)];exact hR⟩
   ·rintro⟨c,hc,hR⟩;exact⟨c,hc,by rw[h n c (by omega) (by have:=lU R n c hc;omega)];exact hR⟩
  rw[jD,jD,e,ih]
theorem BU(R:Nat→Nat→Bool)(b:Nat):∀ l l':List Nat,posR R b (l++l')=(posR R b l).or ((posR R b l').map (·+l.length))
 | [],l'=>by simp[posR]
 | c::r,l'=>by
  simp only[List.cons_append,posR,BU R b r l']
  split
  ·simp
  ·cases posR R b r <;> cases posR R b l' <;> simp[Nat.add_assoc]
theorem yD{R:Nat→Nat→Bool}{b:Nat}:∀ {l:List Nat},l.any (R b)=false→posR R b l=none
 | [],_=>rfl
 | c::r,h=>by
  simp only[List.any_cons,Bool.or_eq_false_iff] at h
  simp[posR,h.1,yD h.2]
theorem yE{R:Nat→Nat→Bool}{b:Nat}:∀ {l:List Nat},l.any (R b)=true→∃ i,posR R b l=some i∧i<l.length∧∃ c,l[i]?=some c∧R b c=true
 | [],h=>by simp at h
 | c::r,h=>by
  simp only[posR]
  by_cases hc:R b c=true
  ·exact⟨0,by simp[hc],by simp,c,by simp,hc⟩
  ·simp only[List.any_cons,hc,Bool.false_or] at h
   obtain⟨i,h1,h2,d,h3,h4⟩:=yE (R:=R) (b:=b) (l:=r) (by simpa using h)
   exact⟨i+1,by simp[hc,h1],by simpa using h2,d,by simpa using h3,h4⟩
theorem xg{R:Nat→Nat→Bool}(hr:∀ b,R b b=true){n b:Nat}(hb:b<n):(aJ R n).any (R b)=true:=by
 obtain⟨m,rfl⟩:∃ m,n=b+1+m:=⟨n - (b+1),by omega⟩
 obtain⟨l,hl⟩:=BR R (b+1) m
 rw[hl,List.any_append]
 have:(aJ R (b+1)).any (R b)=true:=by
  rw[jD]
  split
  ·assumption
  ·simp[hr]
 simp[this]
theorem OJ{R:Nat→Nat→Bool}(hr:∀ b,R b b=true){n b:Nat}(hb:b<n)(hn:n≤256):posR R b (aJ R n)=some (bg R b):=by
 obtain⟨m,hm⟩:∃ m,n+m=256:=⟨256 - n,by omega⟩
 obtain⟨l,hl⟩:=BR R n m
 obtain⟨i,hi,_⟩:=yE (xg hr hb)
 have:posR R b (aJ R 256)=some i:=by rw[←hm,hl,BU,hi];rfl
 rw[hi,bg,this];rfl
theorem Jt{R:Nat→Nat→Bool}(hr:∀ b,R b b=true){n:Nat}(hn:n<256)(h:(aJ R n).any (R n)=false):aJ R (n+1)=aJ R n++[n]∧bg R n=(aJ R n).length:=by
 have e:aJ R (n+1)=aJ R n++[n]:=by rw[jD,h];rfl
 refine⟨e,?_⟩
 have h1:=OJ hr (Nat.lt_succ_self n) hn
 rw[e,BU,yD h] at h1
 simpa [posR,hr] using h1.symm
theorem Ju{R:Nat→Nat→Bool}(hr:∀ b,R b b=true){n:Nat}(hn:n<256)(h:(aJ R n).any (R n)=true):aJ R (n+1)=aJ R n∧posR R n (aJ R n)=some (bg R n):=by
 have e:aJ R (n+1)=aJ R n:=by rw[jD,h];rfl
 refine⟨e,?_⟩
 rw[←e];exact OJ hr (Nat.lt_succ_self n) hn
theorem Hg{R:Nat→Nat→Bool}(hr:∀ b,R b b=true){b:Nat}(hb:b<256):bg R b<iO R:=by
 obtain⟨i,hi,hlt,_⟩:=yE (xg hr hb)
 unfold bg iO;rw[hi];exact hlt
theorem Hl(R:Nat→Nat→Bool):iO R≤256:=jW R 256
theorem Xv{R:Nat→Nat→Bool}(hr:∀ b,R b b=true){b:Nat}(hb:b<256):bg R b<256:=Nat.lt_of_lt_of_le (Hg hr hb) (Hl R)
structure yT(R:Nat→Nat→Bool):Prop where
 refl:∀ b,R b b=true
 symm:∀ {b c},R b c=true→R c b=true
 trans:∀ {b c d},R b c=true→R c d=true→R b d=true
theorem KJ{R:Nat→Nat→Bool}(E:yT R){b c:Nat}(h:R b c=true):∀ l,posR R b l=posR R c l
 | []=>rfl
 | d::r=>by
  simp only[posR,KJ E h r]
  have:R b d=R c d:=by
   rw[Bool.eq_iff_iff];exact⟨fun k=>E.trans (E.symm h) k,fun k=>E.trans h k⟩
  rw[this]
theorem Ho{R:Nat→Nat→Bool}(E:yT R){b c:Nat}(hb:b<256)(hc:c<256):(bg R b=bg R c)↔R b c=true:=by
 constructor
 ·intro h
  obtain⟨i,hi,_,d,hd,hbd⟩:=yE (xg E.refl hb)
  obtain⟨j,hj,_,e,he,hce⟩:=yE (xg E.refl hc)
  have:i=j:=by unfold bg at h;rw[hi,hj] at h;exact h
  subst this
  rw[hd] at he
  obtain rfl:=Option.some.inj he
  exact E.trans hbd (E.symm hce)
 ·intro h;unfold bg;rw[KJ E h]
theorem KL{R S:Nat→Nat→Bool}(h:∀ b c,b<256→c<256→R b c=S b c){b:Nat}(hb:b<256):bg R b=bg S b:=by
 unfold bg
 rw[DR (R:=R) (S:=S) 256 h]
 have:∀ l:List Nat,(∀ c∈l,c<256)→posR R b l=posR S b l:=by
  intro l
  induction l with
  | nil=>intro _;rfl
  | cons c r ih=>intro hl;simp only[posR,h b c hb (hl c (by simp)),ih (fun d hd=>hl d (by simp[hd]))]
 rw[this _ (lU S 256)]
theorem KN{R S:Nat→Nat→Bool}(h:∀ b c,b<256→c<256→R b c=S b c):iO R=iO S:=by
 unfold iO;rw[DR 256 h]
theorem o7{κ:Type}[DecidableEq κ](k:Nat→κ):yT (aX k) :=
 ⟨fun b=>by simp[aX],fun h=>by simp only[aX,decide_eq_true_eq] at *;exact h.symm,fun h1 h2=>by simp only[aX,decide_eq_true_eq] at *;exact h1.trans h2⟩
def qJ{κ:Type}(k:Nat→κ)(l:List Nat):List (κ×Value):=(l.zipIdx).map fun p=>(k p.1,.int .u8 (p.2:Nat))
theorem DT{κ:Type}(k:Nat→κ)(l:List Nat)(n:Nat):qJ k (l++[n])=qJ k l++[(k n,.int .u8 (l.length:Nat))]:=by
 unfold qJ;rw[List.zipIdx_append];simp
theorem oq{κ:Type}(k:Nat→κ)(l:List Nat):(qJ k l).length=l.length:=by simp[qJ]
theorem DU{κ:Type}[DecidableEq κ](k:Nat→κ)(b:Nat)(l:List Nat):look (k b) (qJ k l)=(posR (aX k) b l).map fun i=>Value.int .u8 (i:Nat):=by
 have gen:∀ (l:List Nat) (s:Nat),look (k b) ((l.zipIdx s).map fun p=>(k p.1,Value.int .u8 (p.2:Nat)))=(posR (aX k) b l).map fun i=>Value.int .u8 ((i+s:Nat):Int):=by
  intro l
  induction l with
  | nil=>intro s;rfl
  | cons c r ih =>
   intro s
   simp only[List.zipIdx_cons,List.map_cons,look,posR,aX,decide_eq_true_eq]
   by_cases h:k b=k c
   ·simp[h]
   ·simp only[h,if_false]
    rw[ih (s+1)]
    cases posR (aX k) b r <;> simp <;> omega
 exact gen l 0
def aP(f:Nat→Nat):Array Value:=(((List.range 256).map fun i=>((f i:Nat):Int)).map (Value.int .u8)).toArray
theorem aT(f:Nat→Nat):(aP f).size=256:=by simp[aP]
theorem kW(f g:Nat→Nat):(aP f).size=(aP g).size:=by rw[aT,aT]
theorem dX(f:Nat→Nat)(i:Nat)(h:i<256):(aP f)[i]?=some (.int .u8 (f i:Nat)):=by simp[aP,h]
theorem dY{f g:Nat→Nat}(h:∀ i,i<256→f i=g i):aP f=aP g:=by
 have e:((List.range 256).map fun i=>((f i:Nat):Int))=((List.range 256).map fun i=>((g i:Nat):Int)):=List.map_congr_left fun i hi=>by rw[h i (by simpa using hi)]
 unfold aP;rw[e]
theorem uQ(f:Nat→Nat)(k v:Nat):(aP f).setIfInBounds k (.int .u8 (v:Nat))=aP (fun i=>if i=k then v else f i):=by
 apply Array.ext_getElem?
 intro i
 rw[Array.getElem?_setIfInBounds]
 by_cases hi:i<256
 ·rw[dX _ i hi,dX _ i hi,aT]
  by_cases hk:k=i
  ·subst hk;simp[hi]
  ·have:¬ i=k:=fun e=>hk e.symm
   simp[hk,this]
 ·have h1:(aP fun i=>if i=k then v else f i)[i]?=none:=by rw[Array.getElem?_eq_none];rw[aT];omega
  have h2:(aP f)[i]?=none:=by rw[Array.getElem?_eq_none];rw[aT];omega
  rw[h1,h2,aT]
  by_cases hk:k=i
  ·simp[hk,hi]
  ·simp[hk]
theorem gX(f:Nat→Nat):(aP f).all (·.oneCell')=true:=by
 rw[Array.all_eq_true_iff_forall_mem]
 intro v hv
 simp only[aP,List.mem_toArray,List.mem_map] at hv
 obtain⟨x,_,rfl⟩:=hv
 rfl
theorem qj{R:Nat→Nat→Bool}{n v:Nat}(h:bg R n=v):∀ i,i<256→(if i=n then v else if i<n then bg R i else 0)=if i<n+1 then bg R i else 0:=by
 intro i _
 by_cases h1:i=n
 ·subst h1;simp[h]
 ·by_cases h2:i<n
  ·simp[h1,h2,show i<n+1 by omega]
  ·simp[h1,h2,show ¬ i<n+1 by omega]
theorem nJ(R:Nat→Nat→Bool):iO R=(aJ R 256).length:=rfl
theorem DV{κ:Type}(k:Nat→κ)(R:Nat→Nat→Bool):qJ k (aJ R 0)=[]:=rfl
def kL(f g:Nat→Nat):Bool:=(List.range 256).all fun b=>f b==g b
theorem Iq(f g:Nat→Nat):kL f g=true↔∀ b,b<256→f b=g b:=by
 unfold kL;simp
theorem OL{P:Program}{t e:TypeId}(hu:P.underlying t=some (.array 256 e))(he:P.underlying e=some (.int .u8))(hi:(P.info? e).map (fun i=>i.size)=some 1)(f g:Nat→Nat)(w:World) :
  (Op.equalIn 10000 t (.agg (aP f)) (.agg (aP g))).run P w=.ok (kL f g) w:=by
 cases hq:P.info? e with
 | none=>simp[hq] at hi
 | some i =>
  have hs:i.size=1:=by simpa [hq] using hi
  have hc:P.cellsOf e=1:=by simp[Program.cellsOf,hq,hs]
  have:=pF (P:=P) 9998 hu he hq hc ((List.range 256).map fun i=>((f i:Nat):Int)) ((List.range 256).map fun i=>((g i:Nat):Int)) (by simp) (by simp) w
  refine this.trans ?_
  congr 1
  rw[Bool.eq_iff_iff,Iq]
  simp only[decide_eq_true_eq]
  constructor
  ·intro h b hb
   have:=List.map_inj_left.1 h b (by simpa using hb)
   omega
  ·intro h
   exact List.map_congr_left fun b hb=>by rw[h b (by simpa using hb)]
theorem sO{R:Nat→Nat→Bool}(E:yT R):∀ (n c d:Nat),c∈aJ R n→d<c→R c d=false
 | 0,c,d,h,_=>by simp[aJ] at h
 | n+1,c,d,h,hd=>by
  rw[jD] at h
  split at h
  ·exact sO E n c d h hd
  ·rename_i hn
   rcases List.mem_append.1 h with h | h
   ·exact sO E n c d h hd
   ·obtain rfl:c=n:=by simpa using h
    cases hR:R c d with
    | false=>rfl
    | true =>
     refine absurd ?_ hn
     obtain⟨r,hr,hdr⟩:=List.any_eq_true.1 (xg E.refl hd)
     exact List.any_eq_true.2 ⟨r,hr,E.trans hR hdr⟩
def cls(R:Nat→Nat→Bool)(n c:Nat):aA:=yB fun d=>decide (d<n)&&R c d
theorem sQ(R:Nat→Nat→Bool)(n c d:Nat):mem (cls R n c) d=(decide (d<256)&&(decide (d<n)&&R c d)):=wY _ _
theorem Zv{R:Nat→Nat→Bool}(E:yT R){n c:Nat}(hn:n≤256)(hc:c∈aJ R n):leastOf (cls R n c)=c:=by
 have hlt:=lU R n c hc
 refine Qg _ c (by omega) ?_ fun d hd=>?_
 ·rw[sQ];simp[hlt,E.refl];omega
 ·rw[sQ,sO E n c d hc hd];simp
theorem DW{R:Nat→Nat→Bool}{b:Nat}:∀ {l:List Nat} {p:Nat} (hp:p<l.length),R b l[p]=true→(∀ i (h:i<p),R b (l[i]'(by omega))=false)→posR R b l=some p
 | [],p,hp,_,_=>by simp at hp
 | c::r,0,_,h,_=>by simp at h;simp[posR,h]
 | c::r,p+1,hp,h,hno=>by
  have h0:=hno 0 (by omega)
  simp only[List.getElem_cons_zero] at h0
  have ih:=DW (R:=R) (b:=b) (l:=r) (p:=p) (by simpa using hp) (by simpa using h) (fun i hi=>by have:=hno (i+1) (by omega);simpa using this)
  simp[posR,h0,ih]
def vP(L:List aA)(c:Nat):Nat:=(List.range L.length).foldl (fun acc i=>if mem (L.getD i 0) c then i else acc) 0
theorem OM(L:List aA)(s:aA)(c:Nat):vP (L++[s]) c=if mem s c then L.length else vP L c:=by
 unfold vP
 rw[List.length_append,List.length_singleton,List.range_succ,List.foldl_append]
 simp only[List.foldl_cons,List.foldl_nil]
 have e1:(L++[s]).getD L.length 0=s:=by simp[List.getD]
 rw[e1]
 have:∀ (l:List Nat) (z:Nat),(∀ i∈l,i<L.length)→l.foldl (fun acc i=>if mem ((L++[s]).getD i 0) c then i else acc) z=l.foldl (fun acc i=>if mem (L.getD i 0) c then i else acc) z:=by
  intro l
  induction l with
  | nil=>intro z _;rfl
  | cons i l ih =>
   intro z h
   have e2:(L++[s]).getD i 0=L.getD i 0:=by simp[List.getD,List.getElem?_append_left (h i (by simp))]
   simp only[List.foldl_cons,e2]
   exact ih _ (fun j hj=>h j (by simp[hj]))
 rw[this _ _ (fun i hi=>by simpa using hi)]
attribute [irreducible] aJ
theorem QJ{R:Nat→Nat→Bool}(E:yT R){c:Nat}(hc:c<256):∀ m,m≤(aJ R 256).length →
  vP (((aJ R 256).take m).map (cls R 256)) c=if bg R c<m then bg R c else 0
 | 0,_=>by simp[vP]
 | m+1,hm=>by
  rw[List.take_succ_eq_append_getElem hm,List.map_append,List.map_cons,List.map_nil,OM,QJ E hc m (by omega),List.length_map,List.length_take,Nat.min_eq_left (by omega)]
  have hmem:mem (cls R 256 (aJ R 256)[m]) c=R (aJ R 256)[m] c:=by rw[sQ];simp[hc]
  have hr:=lU R 256 _ (List.getElem_mem hm)
  have hnum:bg R (aJ R 256)[m]=m:=by
   have:=DW (R:=R) (b:=(aJ R 256)[m]) (l:=aJ R 256) (p:=m) hm (E.refl _) (fun i hi=>by
    have h1:=sO E 256 (aJ R 256)[m] (aJ R 256)[i] (List.getElem_mem _)
    have h2:=uq R 256 i m hi hm
    exact h1 h2)
   unfold bg;rw[this];rfl
  rw[hmem]
  by_cases h:R (aJ R 256)[m] c=true
  ·have:=(Ho E hr hc).2 h
   rw[if_pos h,←this,hnum,if_pos (Nat.lt_succ_self m)]
  ·have:bg R c≠m:=fun e=>h ((Ho E hr hc).1 (by rw[hnum,e]))
   rw[if_neg h]
   by_cases h2:bg R c<m
   ·rw[if_pos h2,if_pos (by omega)]
   ·rw[if_neg h2,if_neg (by omega)]
attribute [irreducible] aP bg iO posR qJ kL
end
section
open Go.RowKit
theorem aI{P:Program}{ops:Array Oper}{rest:List Oper}{o:Oper}{a:Act}{w:World}{Q:Exit→Act→World→Prop}(hw:Region.wanted o (yielded ops a.tmps)=true)(ty:TypeId)(x:Operand)(ho:o.op=.load ty x)
  (g:Nat) (hx:a.eval x=.pointer (some ⟨g,0,none⟩)) (t:TypeId) (cs:Array Value) (fr:Nat×Nat) (d:TypeDesc) (hg:w.heap[g]?=some (.cells cs t fr))
  (hu:P.underlying ty=some d) (hd:(match d with | .struct _ | .array _ _=>true | _=>false)=true) (hi:(P.info? ty).map (·.size)=some cs.size)
  (h:wpList P ops Q rest (a.put o.dst (.agg cs)) w):wpList P ops Q (o::rest) a w :=
 BigFrame.wpList_want hw fun _ hK=>wp_load_row ty x ho g hx t cs fr d hg hu hd hi (hK _ _ h)
end
end Go.Proofs.YtbemonecmmnlcaaGreatDoor
