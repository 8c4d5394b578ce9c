/- The texts of N2, in few letters (mini.py). -/
import Derived.Test.YtengfapcaaacaaaGreatDoorM1
set_option linter.unusedVariables false
set_option linter.unusedSimpArgs false
namespace Go.Proofs.YtengfapcaaacaaaGreatDoor
section
open Go.RowKit
section
variable {P:Program} {ops:Array Oper} {Q:Exit→Act→World→Prop} {md:Region.Mode} {R:World→World→Prop} {t:Nat}
def kQ(P:Program)(md:Region.Mode)(ops:Array Oper)(Q:Exit→Act→World→Prop)(R:World→World→Prop)(t:Nat):Nat→Array Bool→Act→World→Prop
 | 0,listed,a,w=>∀ w1,R w w1→Region.ready md ops listed=[]∧Q .normal a w1
 | fuel+1,listed,a,w=>∀ w1,R w w1→(Region.ready md ops listed=[]→Q .normal a w1) ∧
   ∀ i∈Region.ready md ops listed,wpOp P ops Q i (fun a' w'=>(i≠t→R w1 w')∧kQ P md ops Q R t fuel (listed.setIfInBounds i true) a' w') a w1
def Cl(md:Region.Mode)(ops:Array Oper)(listed:Array Bool):Prop:=∀ k o,ops[k]?=some o→listed.getD k false=true→∀ e∈o.after,Region.binds md e=true→listed.getD e.on false=true
def uH(md:Region.Mode)(ops:Array Oper)(listed:Array Bool):Bool:=(List.range ops.size).all fun k=>!listed.getD k false||((ops[k]?).map fun o=>o.after.all fun e=>!Region.binds md e||listed.getD e.on false).getD true
theorem Cl.ofB{listed:Array Bool}(h:uH md ops listed=true):Cl md ops listed:=fun k o ho hk e he hb=>by
 have hlt:k<ops.size:=(Array.getElem?_eq_some_iff.1 ho).1
 have:=List.all_eq_true.1 h k (List.mem_range.2 hlt)
 rw[hk,ho] at this
 simp only[Bool.not_true,Bool.false_or,Option.map_some,Option.getD_some] at this
 have:=(Array.all_eq_true_iff_forall_mem.1 this) e he
 rw[hb] at this
 simpa using this
def needs(md:Region.Mode)(ops:Array Oper)(i:Nat):Nat→Nat→Bool
 | 0,_=>false
 | f+1,t=>((ops[t]?).map fun o=>o.after.any fun e=>Region.binds md e&&(e.on==i||needs md ops i f e.on)).getD false
theorem zQ{listed:Array Bool}(hc:Cl md ops listed){i:Nat}:∀ (f t:Nat) (o:Oper),ops[t]?=some o→(∀ e∈o.after,Region.binds md e=true→listed.getD e.on false=true)→needs md ops i f t=true→listed.getD i false=true
 | 0,_,_,_,_,h=>by cases h
 | f+1,t,o,ho,hl,h=>by
  unfold needs at h
  rw[ho] at h
  simp only[Option.map_some,Option.getD_some] at h
  obtain⟨e,he,h2⟩:=Array.any_eq_true'.1 h
  simp only[Bool.and_eq_true,Bool.or_eq_true,beq_iff_eq] at h2
  obtain⟨hb,h3⟩:=h2
  have hon:=hl e he hb
  rcases h3 with rfl | h3
  ·exact hon
  ·cases hoe:ops[e.on]? with
   | none =>
    cases f with
    | zero=>cases h3
    | succ f=>unfold needs at h3;rw[hoe] at h3;cases h3
   | some o2=>exact zQ hc f e.on o2 hoe (fun e2 he2 hb2=>hc _ _ hoe hon e2 he2 hb2) h3
theorem Cl.step{listed:Array Bool}(hc:Cl md ops listed){j:Nat}(hj:j∈Region.ready md ops listed):Cl md ops (listed.setIfInBounds j true):=fun k o ho hk e he hb=>by
 by_cases hkj:k=j
 ·subst hkj
  obtain⟨_,o',ho',hall⟩:=mem_ready.1 hj
  rw[ho] at ho'
  cases ho'
  exact getD_set_true (hall e he hb)
 ·rw[getD_set_ne false (fun h=>hkj h.symm)] at hk
  exact getD_set_true (hc k o ho hk e he hb)
theorem kQ.later(ht:∀ a b c,R a b→R b c→R a c):∀ {fuel:Nat} {listed:Array Bool} {a:Act} {w w':World},kQ P md ops Q R t fuel listed a w→R w w'→kQ P md ops Q R t fuel listed a w'
 | 0,_,_,_,_,h,hr=>fun w1 h1=>h w1 (ht _ _ _ hr h1)
 | _+1,_,_,_,_,h,hr=>fun w1 h1=>h w1 (ht _ _ _ hr h1)
theorem J9(hr:∀ a,R a a):∀ (fuel:Nat) (listed:Array Bool) (a:Act) (w:World),kQ P md ops Q R t fuel listed a w→wpAny P md ops Q fuel listed a w
 | 0,_,_,w,h=>h w (hr w)
 | fuel+1,_,_,w,h=>⟨(h w (hr w)).1,fun i hi=>wpOp_mono (fun a' w' h'=>J9 hr fuel _ a' w' h'.2) ((h w (hr w)).2 i hi)⟩
def Vl(P:Program)(R:World→World→Prop)(o:Oper)(v:Value)(a:Act)(w1:World):Prop :=
 (execOp a.eval o).run P w1=.ok (.value v) w1∨∃ f args,(execOp a.eval o).run P w1=.ok (.enter f args) w1∧Calls P f args w1 fun e w2=>e=.returned v∧R w1 w2
def Gives(P:Program)(ops:Array Oper)(R:World→World→Prop)(o:Oper)(v:Value)(a:Act)(w:World):Prop :=
 (Region.wanted o (yielded ops a.tmps)=true∧∀ w1,R w w1→Vl P R o v a w1)∨(Region.wanted o (yielded ops a.tmps)=false∧v=undef)
theorem Gives.wpOp(hrefl:∀ a,R a a){i:Nat}{o:Oper}{v:Value}{a:Act}(hi:ops[i]?=some o){w w1:World}(hy:Gives P ops R o v a w)(hR:R w w1){K:Act→World→Prop}
  (h:∀ w2,R w1 w2→K (a.put o.dst v) w2):wpOp P ops Q i K a w1:=by
 unfold Go.wpOp
 simp only[hi]
 rcases hy with⟨hw,hv⟩ | ⟨hw,rfl⟩
 ·simp only[hw,if_true]
  refine .inl ?_
  unfold Oper.wp
  rcases hv w1 hR with he | ⟨f,args,he,hc⟩
  ·simp only[he,Oper.upon];exact h _ (hrefl _)
  ·simp only[he,Oper.upon]
   refine Calls.mono hc fun e w2 ⟨h1,h2⟩=>?_
   subst h1
   exact h _ h2
 ·simp only[hw,Bool.false_eq_true,if_false];exact h _ (hrefl _)
theorem Gives.of_same{o:Oper}{v:Value}{a a':Act}{w:World}(hy:Gives P ops R o v a w)(he:execOp a'.eval o=execOp a.eval o)
  (hw:Region.wanted o (yielded ops a'.tmps)=Region.wanted o (yielded ops a.tmps)):Gives P ops R o v a' w:=by
 unfold Gives Vl at *
 rw[he,hw]
 exact hy
theorem Gives.later(ht:∀ a b c,R a b→R b c→R a c){o:Oper}{v:Value}{a:Act}{w w':World}(hy:Gives P ops R o v a w)(hR:R w w'):Gives P ops R o v a w' :=
 hy.imp (fun⟨h1,h2⟩=>⟨h1,fun w1 h=>h2 w1 (ht _ _ _ hR h)⟩) id
theorem Oc{j:Nat}{oi oj:Oper}{v:Value}(hj:ops[j]?=some oj)(hap:oi.apart ops oj=true)(hsi:∀ cs b,oi.op≠.select cs b)(hsj:∀ cs b,oj.op≠.select cs b)
  (hQ:∀ c a w,Q (.panic c) (a.put oi.dst v) w→Q (.panic c) a w) {K:Act→World→Prop} {a:Act} {w:World} (h:wpOp P ops Q j K (a.put oi.dst v) w) :
  wpOp P ops Q j (fun a' w'=>(∀ w0,Gives P ops R oi v a w0→Gives P ops R oi v a' w0)∧K (a'.put oi.dst v) w') a w:=by
 obtain⟨h1,h2,h3⟩:=Oper.apart_spec hap
 have keep:∀ u w0,Gives P ops R oi v a w0→Gives P ops R oi v (a.put oj.dst u) w0:=fun u w0 hy=>hy.of_same (execOp_put oi hsi a oj.dst u h3) (wanted_put oi a oj.dst u h3)
 have keepD:∀ d u w0,Gives P ops R oi v a w0→Gives P ops R oi v (({ a with defers:=d::a.defers }:Act).put oj.dst u) w0:=fun d u w0 hy =>
  (hy.of_same (a':={ a with defers:=d::a.defers }) rfl rfl).of_same (execOp_put oi hsi _ oj.dst u h3) (wanted_put oi _ oj.dst u h3)
 unfold wpOp at *
 simp only[hj] at *
 rw[wanted_put oj a oi.dst v h1] at h
 by_cases hw:Region.wanted oj (yielded ops a.tmps)=true
 ·simp only[hw,if_true] at h ⊢
  rcases h with h | ⟨hasks,hlets⟩
  case inr=>exact .inr ⟨by unfold Oper.asks at *;rw[execOp_put oj hsj a oi.dst v h1] at hasks;exact hasks,hlets⟩
  refine .inl ?_
  unfold Oper.wp at *
  rw[execOp_put oj hsj a oi.dst v h1] at h
  generalize (execOp a.eval oj).run P w=r at *
  cases r with
  | ok n w' =>
   cases n <;> simp only[Oper.upon] at h ⊢
   case value u=>exact⟨keep u,by rw[←Act.put_comm a v u h2];exact h⟩
   case skip=>exact⟨keep _,by rw[←Act.put_comm a v undef h2];exact h⟩
   case defer d=>exact⟨keepD d _,by rw[←Act.put_comm _ v undef h2,←Act.put_defers];exact h⟩
   case enter f args =>
    refine Calls.mono h fun e w'' he=>?_
    cases e with
    | returned u=>exact⟨keep u,by rw[←Act.put_comm a v u h2];exact he⟩
    | panicked c=>exact hQ _ _ _ he
    | outgrown=>exact he
   case row row args=>exact Rows.mono h fun u w'' he=>⟨keep u,by rw[←Act.put_comm a v u h2];exact he⟩
  | halt x w' =>
   cases x <;> simp only[Oper.upon] at h ⊢
   case panic u=>exact hQ _ _ _ h
 ·simp only[hw,Bool.false_eq_true,if_false] at h ⊢
  exact⟨keep _,by rw[←Act.put_comm a v undef h2];exact h⟩
theorem Fb(hrefl:∀ a,R a a)(ht:∀ a b c,R a b→R b c→R a c){i:Nat}{oi:Oper}{v:Value}(hi:ops[i]?=some oi)(hsel:∀ (j:Nat) (o:Oper) cs b,ops[j]?=some o→o.op≠.select cs b)
  (hQ:∀ c a w,Q (.panic c) (a.put oi.dst v) w→Q (.panic c) a w) (hit:i≠t) (hn:ops.size≤t∨needs md ops i ops.size t=true):∀ (fuel:Nat) (listed:Array Bool) (a:Act) (w:World),Cl md ops listed →
   (∀ j oj,ops[j]?=some oj→j≠i→listed.getD j true=false→(∀ e∈oj.after,Region.binds md e=true→e.on≠i)→oi.apart ops oj=true) →
   i∈Region.ready md ops listed→Gives P ops R oi v a w →
   kQ P md ops Q R t fuel (listed.setIfInBounds i true) (a.put oi.dst v) w→kQ P md ops Q R t (fuel+1) listed a w:=by
 intro fuel
 induction fuel with
 | zero =>
  intro listed a w _ _ hr hy H w1 hw1
  refine⟨fun h=>(by rw[h] at hr;cases hr),fun j hj=>?_⟩
  by_cases hji:j=i
  ·subst hji
   exact hy.wpOp hrefl hi hw1 fun w2 h2=>⟨fun _=>h2,fun w3 h3=>H w3 (ht _ _ _ hw1 (ht _ _ _ h2 h3))⟩
  ·have:=ready_mono hj hji
   rw[(H w (hrefl _)).1] at this
   cases this
 | succ fuel ih =>
  intro listed a w hcl hfree hr hy H w1 hw1
  refine⟨fun h=>(by rw[h] at hr;cases hr),fun j hj=>?_⟩
  by_cases hji:j=i
  ·subst hji
   exact hy.wpOp hrefl hi hw1 fun w2 h2=>⟨fun _=>h2,kQ.later ht H (ht _ _ _ hw1 h2)⟩
  ·have h1:=(H w1 hw1).2 j (ready_mono hj hji)
   obtain⟨hjun,oj,hoj,hall⟩:=mem_ready.1 hj
   have hjt:j≠t:=fun h=>by
    subst h
    rcases hn with hn | hn
    ·have:=(Array.getElem?_eq_some_iff.1 hoj).1;omega
    ·have h5:=zQ hcl _ _ _ hoj hall hn
     have h6:=(mem_ready.1 hr).1
     rcases Nat.lt_or_ge i listed.size with h' | h'
     ·simp[h'] at h5 h6;rw[h6] at h5;cases h5
     ·simp[Array.getElem?_eq_none h'] at h5
   have hnot:∀ e∈oj.after,Region.binds md e=true→e.on≠i:=fun e he hb heq=>by
    have h1:=hall e he hb
    have h0:=(mem_ready.1 hr).1
    rw[heq] at h1
    rcases Nat.lt_or_ge i listed.size with h' | h'
    ·simp[h'] at h0 h1;rw[h0] at h1;cases h1
    ·simp[Array.getElem?_eq_none h'] at h1
   have h2:=Oc (R:=R) hoj (hfree j oj hoj hji hjun hnot) (fun cs b=>hsel i oi cs b hi) (fun cs b=>hsel j oj cs b hoj) hQ h1
   have hfree':∀ k ok,ops[k]?=some ok→k≠i→(listed.setIfInBounds j true).getD k true=false →
     (∀ e∈ok.after,Region.binds md e=true→e.on≠i)→oi.apart ops ok=true:=fun k ok hk hki hun hno=>by
    refine hfree k ok hk hki ?_ hno
    by_cases hjk:j=k
    ·subst hjk;exact hjun
    ·rw[getD_set_ne true hjk] at hun;exact hun
   refine wpOp_mono (fun a' w' h3=>⟨h3.2.1,ih (listed.setIfInBounds j true) a' w' (hcl.step hj) hfree' (ready_mono hr (Ne.symm hji)) (h3.1 _ (hy.later ht (ht _ _ _ hw1 (h3.2.1 hjt)))) ?_⟩) h2
   rw[Array.setIfInBounds_comm _ _ hji]
   exact h3.2.2
end
def Later(w w':World):Prop:=Below w.heap.size w w'
theorem Later.refl(w:World):Later w w:=Below.refl _ _
theorem Later.trans(a b c:World)(h:Later a b)(k:Later b c):Later a c:=Below.trans h (Below.mono k h.size)
class jw (R:World→World→Prop):Prop where
 refl:∀ a,R a a
 trans:∀ a b c,R a b→R b c→R a c
 later:∀ a b,Later a b→R a b
instance alD:jw Later:=⟨Later.refl,Later.trans,fun _ _ h=>h⟩
section
variable {P:Program} {ops:Array Oper} {Q:Exit→Act→World→Prop} {md:Region.Mode} {t:Nat} {R:World→World→Prop}
theorem Nk{listed:Array Bool}{i:Nat}(hc:(uH md ops listed&&(decide (ops.size≤t)||needs md ops i ops.size t)&&decide (i≠t))=true):i≠t:=by
 simp only[Bool.and_eq_true,decide_eq_true_eq] at hc;exact hc.2
theorem DN{listed:Array Bool}{i:Nat}(hc:(uH md ops listed&&(decide (ops.size≤t)||needs md ops i ops.size t)&&decide (i≠t))=true):ops.size≤t∨needs md ops i ops.size t=true:=by
 simp only[Bool.and_eq_true,Bool.or_eq_true,decide_eq_true_eq] at hc;exact hc.1.2
theorem Nl{listed:Array Bool}{i:Nat}(hc:(uH md ops listed&&(decide (ops.size≤t)||needs md ops i ops.size t)&&decide (i≠t))=true):Cl md ops listed:=by
 simp only[Bool.and_eq_true] at hc;exact Cl.ofB hc.1.1
theorem zS[hR:jw R]{i:Nat}{oi:Oper}{v:Value}{fuel:Nat}{listed:Array Bool}{a:Act}{w:World}(hi:ops[i]?=some oi)
  (hs:Region.noSelect ops=true) (hf:Region.free md ops listed i=true) (hr:(Region.ready md ops listed).contains i=true) (hc:(uH md ops listed&&(decide (ops.size≤t)||needs md ops i ops.size t)&&decide (i≠t))=true)
  (hQ:∀ c a w,Q (.panic c) (a.put oi.dst v) w→Q (.panic c) a w) (hw:Region.wanted oi (yielded ops a.tmps)=true) (hy:∀ w1,R w w1→(execOp a.eval oi).run P w1=.ok (.value v) w1)
  (h:kQ P md ops Q R t fuel (listed.setIfInBounds i true) (a.put oi.dst v) w):kQ P md ops Q R t (fuel+1) listed a w :=
 Fb hR.refl hR.trans hi (Region.noSelect_spec hs) hQ (Nk hc) (DN hc) fuel listed a w (Nl hc) (Region.free_spec hi hf) (by simpa using hr) (.inl ⟨hw,fun w1 h1=>.inl (hy w1 h1)⟩) h
theorem abA[hR:jw R]{i:Nat}{oi:Oper}{fuel:Nat}{listed:Array Bool}{a:Act}{w:World}(hi:ops[i]?=some oi)
  (hs:Region.noSelect ops=true) (hf:Region.free md ops listed i=true) (hr:(Region.ready md ops listed).contains i=true) (hc:(uH md ops listed&&(decide (ops.size≤t)||needs md ops i ops.size t)&&decide (i≠t))=true)
  (hQ:∀ c a w,Q (.panic c) (a.put oi.dst undef) w→Q (.panic c) a w) (hw:Region.wanted oi (yielded ops a.tmps)=false)
  (h:kQ P md ops Q R t fuel (listed.setIfInBounds i true) (a.put oi.dst undef) w):kQ P md ops Q R t (fuel+1) listed a w :=
 Fb hR.refl hR.trans hi (Region.noSelect_spec hs) hQ (Nk hc) (DN hc) fuel listed a w (Nl hc) (Region.free_spec hi hf) (by simpa using hr) (.inr ⟨hw,rfl⟩) h
theorem abB[hR:jw R]{i:Nat}{oi:Oper}{v:Value}{fuel:Nat}{listed:Array Bool}{a:Act}{w:World}{f:FuncId}{args:Array Value}(hi:ops[i]?=some oi)
  (hs:Region.noSelect ops=true) (hf:Region.free md ops listed i=true) (hr:(Region.ready md ops listed).contains i=true) (hc:(uH md ops listed&&(decide (ops.size≤t)||needs md ops i ops.size t)&&decide (i≠t))=true)
  (hQ:∀ c a w,Q (.panic c) (a.put oi.dst v) w→Q (.panic c) a w) (hw:Region.wanted oi (yielded ops a.tmps)=true) (he:∀ w1,(execOp a.eval oi).run P w1=.ok (.enter f args) w1)
  (hy:∀ w1,R w w1→Calls P f args w1 (aY w1 v))
  (h:kQ P md ops Q R t fuel (listed.setIfInBounds i true) (a.put oi.dst v) w):kQ P md ops Q R t (fuel+1) listed a w :=
 Fb hR.refl hR.trans hi (Region.noSelect_spec hs) hQ (Nk hc) (DN hc) fuel listed a w (Nl hc) (Region.free_spec hi hf) (by simpa using hr) (.inl ⟨hw,fun w1 h1=>.inr ⟨f,args,he w1,(hy w1 h1).mono fun _ _ k=>⟨k.1,hR.later _ _ k.2⟩⟩⟩) h
theorem aP{i:Nat}{oi:Oper}{fuel:Nat}{listed:Array Bool}{a:Act}{w:World}(hr:Region.ready md ops listed=[i])(hi:ops[i]?=some oi)
  (h:∀ w1,R w w1→∀ K:Act→World→Prop,Shut (∀ a' w',(i≠t→R w1 w')→kQ P md ops Q R t fuel (listed.setIfInBounds i true) a' w'→K a' w')→if Region.wanted oi (yielded ops a.tmps)=true then Oper.wp P oi a w1 K Q else K (a.put oi.dst undef) w1) :
  kQ P md ops Q R t (fuel+1) listed a w:=fun w1 h1=>by
 refine⟨fun h0=>(by rw[hr] at h0;cases h0),fun j hj=>?_⟩
 rw[hr,List.mem_singleton] at hj
 subst hj
 exact wpOp_step hi (fun K' hK=>h w1 h1 K' (fun a' w' k1 k2=>hK a' w' ⟨k1,k2⟩))
theorem Ho{i j:Nat}{oi oj:Oper}{fuel:Nat}{listed:Array Bool}{a:Act}{w:World}(hr:Region.ready md ops listed=[i,j])(hi:ops[i]?=some oi)(hj:ops[j]?=some oj)
  (h1:∀ w1,R w w1→∀ K:Act→World→Prop,Shut (∀ a' w',(i≠t→R w1 w')→kQ P md ops Q R t fuel (listed.setIfInBounds i true) a' w'→K a' w')→if Region.wanted oi (yielded ops a.tmps)=true then Oper.wp P oi a w1 K Q else K (a.put oi.dst undef) w1)
  (h2:∀ w1,R w w1→∀ K:Act→World→Prop,Shut (∀ a' w',(j≠t→R w1 w')→kQ P md ops Q R t fuel (listed.setIfInBounds j true) a' w'→K a' w')→if Region.wanted oj (yielded ops a.tmps)=true then Oper.wp P oj a w1 K Q else K (a.put oj.dst undef) w1) :
  kQ P md ops Q R t (fuel+1) listed a w:=fun w1 hw1=>by
 refine⟨fun h0=>(by rw[hr] at h0;cases h0),fun k hk=>?_⟩
 rw[hr,List.mem_cons,List.mem_singleton] at hk
 rcases hk with rfl | rfl
 ·exact wpOp_step hi (fun K' hK=>h1 w1 hw1 K' (fun a' w' k1 k2=>hK a' w' ⟨k1,k2⟩))
 ·exact wpOp_step hj (fun K' hK=>h2 w1 hw1 K' (fun a' w' k1 k2=>hK a' w' ⟨k1,k2⟩))
theorem aH{listed:Array Bool}{a:Act}{w:World}(hr:Region.ready md ops listed=[])(h:∀ w1,R w w1→Q .normal a w1):∀ fuel,kQ P md ops Q R t fuel listed a w
 | 0=>fun w1 h1=>⟨hr,h w1 h1⟩
 | _+1=>fun w1 h1=>⟨fun _=>h w1 h1,by rw[hr];simp⟩
theorem aA[hR:jw R](t:Nat){id:Nat}{a:Act}{w:World}(hm:P.follows .mixedOrders=true)
  (h:kQ P .any ops Q R t ops.size (Array.replicate ops.size false) a w.drew):(Code.region id ops true).wp P Q a w :=
 wp_region_any hm (J9 hR.refl _ _ _ _ h)
theorem jM[hR:jw R](i:Nat){oi:Oper}(v:Value){fuel:Nat}{listed:Array Bool}{a:Act}{w:World}(hi:ops[i]?=some oi)(hy:∀ w1,R w w1→(execOp a.eval oi).run P w1=.ok (.value v) w1)
  (h:kQ P md ops Q R t fuel (listed.setIfInBounds i true) (a.put oi.dst v) w) (hw:Region.wanted oi (yielded ops a.tmps)=true:=by rfl)
  (hc:(Region.noSelect ops&&(Region.free md ops listed i&&((Region.ready md ops listed).contains i&&(uH md ops listed&&(decide (ops.size≤t)||needs md ops i ops.size t)&&decide (i≠t)))))=true:=by kernel_rfl)
  (hQ:∀ c a w,Q (.panic c) (a.put oi.dst v) w→Q (.panic c) a w:=by exact fun _ _ _ h=>h):kQ P md ops Q R t (fuel+1) listed a w:=by
 rw[Bool.and_eq_true,Bool.and_eq_true,Bool.and_eq_true] at hc
 exact zS hi hc.1 hc.2.1 hc.2.2.1 hc.2.2.2 hQ hw hy h
theorem dK[hR:jw R](i:Nat){oi:Oper}{fuel:Nat}{listed:Array Bool}{a:Act}{w:World}(hi:ops[i]?=some oi)
  (h:kQ P md ops Q R t fuel (listed.setIfInBounds i true) (a.put oi.dst undef) w) (hw:Region.wanted oi (yielded ops a.tmps)=false:=by rfl)
  (hc:(Region.noSelect ops&&(Region.free md ops listed i&&((Region.ready md ops listed).contains i&&(uH md ops listed&&(decide (ops.size≤t)||needs md ops i ops.size t)&&decide (i≠t)))))=true:=by kernel_rfl)
  (hQ:∀ c a w,Q (.panic c) (a.put oi.dst undef) w→Q (.panic c) a w:=by exact fun _ _ _ h=>h):kQ P md ops Q R t (fuel+1) listed a w:=by
 rw[Bool.and_eq_true,Bool.and_eq_true,Bool.and_eq_true] at hc
 exact abA hi hc.1 hc.2.1 hc.2.2.1 hc.2.2.2 hQ hw h
def Pl(_:List Nat)(p:Prop):Prop:=p
theorem pl(l:List Nat){p:Prop}(h:Pl l p):p:=h
theorem bU{p:Prop}(h:p):Pl [] p:=h
theorem dI[hR:jw R]{i:Nat}{l:List Nat}{oi:Oper}(v:Value){fuel:Nat}{listed:Array Bool}{a:Act}{w:World}(hi:ops[i]?=some oi)(hy:∀ w1,R w w1→(execOp a.eval oi).run P w1=.ok (.value v) w1)
  (h:Pl l (kQ P md ops Q R t fuel (listed.setIfInBounds i true) (a.put oi.dst v) w)) (hw:Region.wanted oi (yielded ops a.tmps)=true:=by rfl)
  (hc:(Region.noSelect ops&&(Region.free md ops listed i&&((Region.ready md ops listed).contains i&&(uH md ops listed&&(decide (ops.size≤t)||needs md ops i ops.size t)&&decide (i≠t)))))=true:=by kernel_rfl)
  (hQ:∀ c a w,Q (.panic c) (a.put oi.dst v) w→Q (.panic c) a w:=by exact fun _ _ _ h=>h):Pl (i::l) (kQ P md ops Q R t (fuel+1) listed a w) :=
 jM i v hi hy h hw hc hQ
theorem EI[hR:jw R](i:Nat){oi:Oper}(f:FuncId)(args:Array Value)(v:Value){fuel:Nat}{listed:Array Bool}{a:Act}{w:World}(hi:ops[i]?=some oi)
  (he:∀ w1,(execOp a.eval oi).run P w1=.ok (.enter f args) w1) (hy:∀ w1,R w w1→Calls P f args w1 (aY w1 v))
  (h:kQ P md ops Q R t fuel (listed.setIfInBounds i true) (a.put oi.dst v) w) (hw:Region.wanted oi (yielded ops a.tmps)=true:=by rfl)
  (hc:(Region.noSelect ops&&(Region.free md ops listed i&&((Region.ready md ops listed).contains i&&(uH md ops listed&&(decide (ops.size≤t)||needs md ops i ops.size t)&&decide (i≠t)))))=true:=by kernel_rfl)
  (hQ:∀ c a w,Q (.panic c) (a.put oi.dst v) w→Q (.panic c) a w:=by exact fun _ _ _ h=>h):kQ P md ops Q R t (fuel+1) listed a w:=by
 rw[Bool.and_eq_true,Bool.and_eq_true,Bool.and_eq_true] at hc
 exact abB hi hc.1 hc.2.1 hc.2.2.1 hc.2.2.2 hQ hw he hy h
theorem eA{α:Type}{l:List α}{i:Nat}(h:i<l.toArray.size):l.toArray[i]=l[i]'(by simpa using h):=List.getElem_toArray h
theorem eB{α:Type}{a:α}{l:List α}(w:0<(a::l).length):(a::l)[0]=a:=rfl
theorem eC{α:Type}{a:α}{l:List α}{i:Nat}(w:i+1<(a::l).length):(a::l)[i+1]=l[i]'(Nat.lt_of_succ_lt_succ w):=rfl
theorem eD{α:Type}{l:List α}{i:Nat}{a:α}:l.toArray.setIfInBounds i a=(l.set i a).toArray:=List.setIfInBounds_toArray l i a
theorem eE{α:Type}{a b:α}{l:List α}:(a::l).set 0 b=b::l:=List.set_cons_zero
theorem eF{α:Type}{a b:α}{l:List α}{n:Nat}:(a::l).set (n+1) b=a::l.set n b:=List.set_cons_succ
end
attribute [irreducible] Pl
end
section
open Go.RowKit
theorem yN(z:Array Value)(n k:Nat)(h:k<n)(hz:0<z.size):(madeCells z n)[k]?=z[k % z.size]?:=by
 have hm:k % z.size<z.size:=Nat.mod_lt _ hz
 simp[madeCells,h,getElem!_pos,hm]
theorem Own.made{α:Type}{enc:α→List Value}{size:Nat}(he:fB enc size)(w:World)(qB E:Nat)(x0:α)(z:Array Value)(hz:z.toList=enc x0)(hpos:0<size)(n:Nat)(hn:n≤maxLen)(hb:qB≤w.heap.size) :
  Own (w.alloc (.cells (madeCells z (n*size)) E)) qB E size enc (.slice (some ⟨w.heap.size,0,none⟩) n n) (List.replicate n x0):=by
 have hsz:z.size=size:=by rw[←Array.length_toList,hz,he.len]
 refine⟨_,n,by rw[List.length_replicate],by rw[List.length_replicate];exact Nat.le_refl _,hn,.inr ⟨w.heap.size,_,rfl,hb,Box.new _ _ _,size_madeCells _ _,fun i hi j hj=>?_⟩⟩
 rw[List.length_replicate] at hi
 have hk:i*size+j<n*size:=by
  have:(i+1)*size≤n*size:=Nat.mul_le_mul_right _ hi
  rw[Nat.succ_mul] at this;omega
 rw[yN _ _ _ hk (by omega),hsz,List.getElem_replicate,←hz,Array.getElem?_toList]
 congr 1
 rw[Nat.add_comm,Nat.add_mul_mod_self_right,Nat.mod_eq_of_lt hj]
theorem nZ{α:Type}{enc:α→List Value}{size:Nat}{P:Program}{ops:Array Oper}{rest:List Oper}{o:Oper}{a:Act}{w:World}{Q:Exit→Act→World→Prop}(hgd:o.guard=none)(t:TypeId)(x y:Operand)(ho:o.op=.makeSlice t x y)
  {E:TypeId} {z:Value} {bytes:Nat} (hE:dQ P t E z size bytes) (he:fB enc size) (x0:α) (hz:z.cells.toList=enc x0) (n:Nat) (hx:a.eval x=.int .i64 n) (hy:a.eval y=.int .i64 n) (hbytes:bytes*n≤281474976710656) (h63:n≤maxLen) (qB:Nat) (hb:qB≤w.heap.size)
  (h:∀ w1,Own w1 qB E size enc (.slice (some ⟨w.heap.size,0,none⟩) n n) (List.replicate n x0)→w1=w.alloc (.cells (madeCells z.cells (n*size)) E)→wpList P ops Q rest (a.put o.dst (.slice (some ⟨w.heap.size,0,none⟩) n n)) w1):wpList P ops Q (o::rest) a w:=by
 obtain⟨i,hi,hiz,his,hib⟩:=hE.info
 subst hib
 subst his
 refine wpList_plain hgd fun K hK=>?_
 have h63':(n:Int)≤9223372036854775807:=by have:=h63;simp[maxLen] at this;omega
 have hb':(i.bytes:Int)*(n:Int)≤281474976710656:=by
  have:((i.bytes*n:Nat):Int)≤281474976710656:=by omega
  rwa[Int.natCast_mul] at this
 have hr:=run_make (P:=P) w t E i z hE.slice hi hiz .i64 .i64 n n (Int.natCast_nonneg _) (Int.le_refl _) hb' h63'
 simp only[Int.toNat_natCast] at hr
 unfold Oper.wp execOp
 simp only[ho,hx,hy,Sem.run_bind,Sem.run_pure,Result.andThen_ok,hr,Oper.upon]
 exact hK _ _ (h _ (Own.made he w qB E x0 z.cells hz hE.pos n h63 hb) rfl)
end
section
open Go.RowKit
theorem Fe{P:Program}(d:Nat)(e:TypeId)(q:IntKind)(he:P.underlying e=some (.int q))(xs ys:List Int)(w:World):∀ (l:List Nat),(∀ i∈l,i<xs.length∧i<ys.length) →
  (Op.eqItems (d+1) e 1 (xs.map (Value.int q)).toArray (ys.map (Value.int q)).toArray l).run P w=.ok (l.all fun i=>xs.getD i 0==ys.getD i 0) w
 | [],_=>by simp[Op.eqItems]
 | i::l,h=>by
  obtain⟨h1,h2⟩:=h i (by simp)
  have ih:=Fe d e q he xs ys w l (fun j hj=>h j (by simp[hj]))
  have px:(part e (xs.map (Value.int q)).toArray (i*1)).run P w=.ok (.int q (xs.getD i 0)) w:=by
   simp[part,isAgg,run_underlying he,List.getD,List.getElem?_eq_getElem h1]
  have py:(part e (ys.map (Value.int q)).toArray (i*1)).run P w=.ok (.int q (ys.getD i 0)) w:=by
   simp[part,isAgg,run_underlying he,List.getD,List.getElem?_eq_getElem h2]
  have pe:=run_equalIn_int (P:=P) w d e q q (xs.getD i 0) (ys.getD i 0) he
  simp only[Op.eqItems,Sem.run_bind,px,py,pe,Result.andThen_ok,List.all_cons]
  cases hb:(xs.getD i 0==ys.getD i 0)
  ·simp
  ·simpa using ih
theorem Uo:∀ (xs ys:List Int),xs.length=ys.length→((List.range xs.length).all fun i=>xs.getD i 0==ys.getD i 0)=decide (xs=ys):=by
 intro xs ys h
 rw[Bool.eq_iff_iff]
 simp only[List.all_eq_true,List.mem_range,beq_iff_eq,decide_eq_true_eq]
 constructor
 ·intro hh
  apply List.ext_getElem h
  intro i h1 h2
  have:=hh i h1
  simpa [List.getD,List.getElem?_eq_getElem h1,List.getElem?_eq_getElem h2] using this
 ·rintro rfl i _;rfl
theorem o7{P:Program}(d:Nat){t e:TypeId}{n:Nat}{i:TypeInfo}{q:IntKind}(hu:P.underlying t=some (.array n e))(he:P.underlying e=some (.int q))(hi:P.info? e=some i)(hc:P.cellsOf e=1)
  (xs ys:List Int) (hx:xs.length=n) (hy:ys.length=n) (w:World) :
  (Op.equalIn (d+2) t (.agg (xs.map (Value.int q)).toArray) (.agg (ys.map (Value.int q)).toArray)).run P w=.ok (decide (xs=ys)) w:=by
 rw[run_equalIn_array (w:=w) (d+1) _ _ hu hi,hc,Fe d e q he xs ys w _ (fun i hi=>by simp at hi;omega),←hx,Uo xs ys (hx.trans hy.symm)]
def pos{κ:Type}[DecidableEq κ](k:κ):List κ→Option Nat
 | []=>none
 | a::r=>if k=a then some 0 else (pos k r).map (·+1)
def look{κ:Type}[DecidableEq κ](k:κ):List (κ×Value)→Option Value
 | []=>none
 | p::r=>if k=p.1 then some p.2 else look k r
def mD{κ:Type}[DecidableEq κ](k:κ)(v:Value):List (κ×Value)→List (κ×Value)
 | []=>[(k,v)]
 | p::r=>if k=p.1 then (k,v)::r else p::mD k v r
structure rW{κ:Type}[DecidableEq κ](P:Program)(kt:TypeId)(enc:κ→Value):Prop where
 check:∀ (k:κ) (e:Bool) (w:World),(Instr.checkKey e 10000 kt (enc k)).run P w=.ok () w
 find:∀ (k:κ) (ks:List κ) (es:List MapEntry) (w:World),es.map (·.key)=ks.map enc →
  (Instr.findKey kt (enc k) es).run P w=.ok ((pos k ks).bind fun i=>(es[i]?).map fun e=>(i,e.val)) w
 bits:∀ k:κ,Instr.sameBits 10000 (enc k) (enc k)=true
def aJ{κ:Type}(w:World)(b:Nat)(enc:κ→Value)(kvs:List (κ×Value)):Prop :=
 ∃ es clock,w.heap[b]?=some (.map es clock)∧es.toList.map (fun e=>(e.key,e.val))=kvs.map (fun p=>(enc p.1,p.2))
section
variable {κ:Type} {w:World} {b:Nat} {enc:κ→Value} {kvs:List (κ×Value)}
theorem aJ.lt(h:aJ w b enc kvs):b<w.heap.size:=by obtain⟨es,c,hb,_⟩:=h;exact(Array.getElem?_eq_some_iff.1 hb).1
theorem aJ.same{w':World}(h:aJ w b enc kvs)(e:w'.heap[b]?=w.heap[b]?):aJ w' b enc kvs:=by
 obtain⟨es,c,hb,hk⟩:=h;exact⟨es,c,e.trans hb,hk⟩
theorem aJ.other(h:aJ w b enc kvs)(a:Addr)(v:Value)(hne:b≠a.block):aJ (w.setCell a v) b enc kvs:=h.same (heap_setCell_other w a b v hne)
theorem aJ.alloc(h:aJ w b enc kvs)(o:Obj):aJ (w.alloc o) b enc kvs:=h.same (Below.heap_alloc w o b h.lt)
theorem aJ.below{w':World}{B:Nat}(h:aJ w b enc kvs)(hb:Below B w w')(hlt:b<B):aJ w' b enc kvs:=h.same (hb.block b hlt)
theorem aJ.kept{w':World}(h:aJ w b enc kvs)(hb:Below w.heap.size w w'):aJ w' b enc kvs:=h.below hb h.lt
theorem aJ.setRow(h:aJ w b enc kvs)(g:Nat)(c:Array Value)(hne:b≠g):aJ (w.setRow g c) b enc kvs:=h.same (Go.setRow_other w g b c hne)
theorem aJ.new(w:World)(enc:κ→Value):aJ (w.alloc (.map #[] 0)) w.heap.size enc []:=⟨#[],0,heap_alloc_new w _,rfl⟩
theorem aJ.new'(h:b=w.heap.size)(enc:κ→Value):aJ (w.alloc (.map #[] 0)) b enc []:=h▸aJ.new w enc
variable [DecidableEq κ]
theorem DR(k:κ):∀ (kvs:List (κ×Value)) (es:List MapEntry),es.map (fun e=>(e.key,e.val))=kvs.map (fun p=>(enc p.1,p.2)) →
  ((pos k (kvs.map (·.1))).bind fun i=>(es[i]?).map fun e=>(i,e.val)).map (·.2)=look k kvs
 | [],es,h=>by simp[pos,look]
 | p::r,[],h=>by simp at h
 | p::r,e::es,h=>by
  simp only[List.map_cons,List.cons.injEq,Prod.mk.injEq] at h
  simp only[List.map_cons,pos,look]
  by_cases hk:k=p.1
  ·simp[hk,h.1.2]
  ·simp only[hk,if_false]
   rw[←DR k r es h.2]
   cases pos k (r.map (·.1)) <;> simp[Option.map_map,Function.comp_def]
omit [DecidableEq κ] in
theorem Np{es:List MapEntry}(h:es.map (fun e=>(e.key,e.val))=kvs.map (fun p=>(enc p.1,p.2))):es.map (·.key)=(kvs.map (·.1)).map enc:=by
 have:=congrArg (List.map Prod.fst) h
 simpa [List.map_map,Function.comp_def] using this
theorem aJ.qM{P:Program}{t kt e:TypeId}(h:aJ w b enc kvs)(K:rW P kt enc)(ht:P.underlying t=some (.map kt e)){z:Value}(hz:(zeroValue e).run P w=.ok z w)(k:κ) :
  (Instr.lookup t (.map (some b)) (enc k) true).run P w=.ok (.tuple #[(look k kvs).getD z,.bool (look k kvs).isSome]) w:=by
 obtain⟨es,c,hb,hk⟩:=h
 have hf:=K.find k (kvs.map (·.1)) es.toList w (Np hk)
 have hl:=DR (enc:=enc) k kvs es.toList hk
 generalize ((pos k (kvs.map (·.1))).bind fun i=>(es.toList[i]?).map fun e=>(i,e.val))=o at hf hl
 rw[←hl]
 cases o with
 | none=>simp[Instr.lookup,run_underlying ht,MapKept.run_getObj_map hb,K.check,hf,hz,Result.andThen]
 | some x=>simp[Instr.lookup,run_underlying ht,MapKept.run_getObj_map hb,K.check,hf,Result.andThen]
theorem lF{P:Program}{t kt e:TypeId}(h:aJ w b enc kvs)(K:rW P kt enc)(ht:P.underlying t=some (.map kt e)){z:Value}(hz:(zeroValue e).run P w=.ok z w)(k:κ) :
  (Instr.lookup t (.map (some b)) (enc k) false).run P w=.ok ((look k kvs).getD z) w:=by
 obtain⟨es,c,hb,hk⟩:=h
 have hf:=K.find k (kvs.map (·.1)) es.toList w (Np hk)
 have hl:=DR (enc:=enc) k kvs es.toList hk
 generalize ((pos k (kvs.map (·.1))).bind fun i=>(es.toList[i]?).map fun e=>(i,e.val))=o at hf hl
 rw[←hl]
 cases o with
 | none=>simp[Instr.lookup,run_underlying ht,MapKept.run_getObj_map hb,K.check,hf,hz,Result.andThen]
 | some x=>simp[Instr.lookup,run_underlying ht,MapKept.run_getObj_map hb,K.check,hf,Result.andThen]
theorem kT(k:κ)(v:Value):∀ (kvs:List (κ×Value)),look k kvs=none→mD k v kvs=kvs++[(k,v)]
 | [],_=>rfl
 | p::r,h=>by
  simp only[look] at h
  by_cases hk:k=p.1
  ·simp[hk] at h
  ·simp only[hk,if_false] at h
   simp[mD,hk,kT k v r h]
theorem DT(k a:κ)(v:Value):∀ (kvs:List (κ×Value)),look a (mD k v kvs)=if a=k then some v else look a kvs
 | []=>by simp[mD,look]
 | p::r=>by
  simp only[mD]
  by_cases hk:k=p.1
  ·simp only[hk,if_true,look]
   by_cases ha:a=p.1 <;> simp[ha]
  ·simp only[hk,if_false,look]
   by_cases ha:a=p.1
   ·have:¬ a=k:=fun e=>hk (e▸ha)
    simp[ha]
    intro e;exact absurd e.symm hk
   ·simp only[ha,if_false];exact DT k a v r
theorem aJ.rX{P:Program}{t kt e:TypeId}(h:aJ w b enc kvs)(K:rW P kt enc)(ht:P.underlying t=some (.map kt e))(k:κ)(v:Value) :
  ∃ w',(Instr.mapUpdate t (.map (some b)) (enc k) v).run P w=.ok () w'∧aJ w' b enc (mD k v kvs)∧(∀ i,i≠b→w'.heap[i]?=w.heap[i]?)∧w'.heap.size=w.heap.size∧(∀ B,B≤b→Below B w w'):=by
 obtain⟨es,c,hb,hk⟩:=h
 have hf:=K.find k (kvs.map (·.1)) es.toList w (Np hk)
 have fin:∀ es' c',(Instr.mapUpdate t (.map (some b)) (enc k) v).run P w=.ok () (ChangeMaps.setBlock w b (.map es' c'))→es'.toList.map (fun e=>(e.key,e.val))=(mD k v kvs).map (fun p=>(enc p.1,p.2)) →
   ∃ w',(Instr.mapUpdate t (.map (some b)) (enc k) v).run P w=.ok () w'∧aJ w' b enc (mD k v kvs)∧(∀ i,i≠b→w'.heap[i]?=w.heap[i]?)∧w'.heap.size=w.heap.size∧(∀ B,B≤b→Below B w w'):=fun es' c' hrun he =>
  ⟨_,hrun,⟨es',c',ChangeMaps.heap_setBlock_same hb _,he⟩,fun i hi=>ChangeMaps.heap_setBlock_other hb _ hi,by simp[ChangeMaps.setBlock],
   fun B hB=>⟨rfl,rfl,rfl,by simp[ChangeMaps.setBlock],fun i hi=>ChangeMaps.heap_setBlock_other hb _ (by omega)⟩⟩
 cases ho:pos k (kvs.map (·.1)) with
 | none =>
  rw[ho] at hf
  refine fin (es.push { key:=enc k,val:=v,born:=c }) (c+1) ?_ ?_
  ·simp only[Option.bind_none] at hf
   simp[Instr.mapUpdate,run_underlying ht,MapKept.run_getObj_map hb,K.check,hf,MapKept.run_setObj_map _ hb,Result.andThen,ChangeMaps.setBlock]
  ·have hn:look k kvs=none:=by rw[←DR (enc:=enc) k kvs es.toList hk,ho];rfl
   rw[kT k v kvs hn];simp[hk]
 | some i =>
  rw[ho] at hf
  have hpos:∀ (kvs:List (κ×Value)) (es:List MapEntry) (i:Nat),es.map (fun e=>(e.key,e.val))=kvs.map (fun p=>(enc p.1,p.2))→pos k (kvs.map (·.1))=some i →
    (∃ e0,es[i]?=some e0∧e0.key=enc k)∧(es.modify i fun e=>{ e with key:=enc k,val:=v }).map (fun e=>(e.key,e.val))=(mD k v kvs).map (fun p=>(enc p.1,p.2)):=by
   intro kvs
   induction kvs with
   | nil=>intro es i _ h;simp[pos] at h
   | cons p r ih =>
    intro es i he h
    cases es with
    | nil=>simp at he
    | cons e0 es =>
     simp only[List.map_cons,List.cons.injEq,Prod.mk.injEq] at he
     simp only[List.map_cons,pos] at h
     by_cases hk:k=p.1
     ·simp only[hk,if_true,Option.some.injEq] at h
      subst h
      exact⟨⟨e0,by simp,by rw[he.1.1,hk]⟩,by simp[mD,hk,he.2]⟩
     ·simp only[hk,if_false,Option.map_eq_some_iff] at h
      obtain⟨j,hj,rfl⟩:=h
      obtain⟨⟨e1,h1,h2⟩,h3⟩:=ih es j he.2 hj
      exact⟨⟨e1,by simpa using h1,h2⟩,by simp[mD,hk,he.1,h3]⟩
  obtain⟨⟨e0,h0,h1⟩,h2⟩:=hpos kvs es.toList i hk ho
  refine fin (es.modify i fun e=>{ e with key:=enc k,val:=v }) c ?_ ?_
  ·have h0':es[i]?=some e0:=by simpa using h0
   simp only[Option.bind_some,h0,Option.map_some] at hf
   simp[Instr.mapUpdate,run_underlying ht,MapKept.run_getObj_map hb,K.check,hf,h0',h1,Instr.keyThatStays,K.bits,MapKept.run_setObj_map _ hb,Result.andThen,ChangeMaps.setBlock]
  ·rw[Array.toList_modify];exact h2
omit [DecidableEq κ] in
theorem aJ.zJ{P:Program}{t kt e:TypeId}(h:aJ w b enc kvs)(ht:P.underlying t=some (.map kt e))(ty:TypeId)(n:Nat)(hn:kvs.length=n) :
  (Builtin.len_ #[t] ty #[.map (some b)]).run P w=.ok (.int .i64 (n:Nat)) w:=by
 obtain⟨es,c,hb,hk⟩:=h
 have hl:es.size=n:=by rw[←hn];simpa using congrArg List.length hk
 simp[Builtin.len_,run_underlying ht,MapKept.run_getObj_map hb,Result.andThen,goInt,hl]
omit [DecidableEq κ] in
theorem aJ.size(h:aJ w b enc kvs):∃ es clock,w.heap[b]?=some (.map es clock)∧es.size=kvs.length:=by
 obtain⟨es,c,hb,hk⟩:=h
 exact⟨es,c,hb,by simpa using congrArg List.length hk⟩
end
theorem Ko{κ:Type}[DecidableEq κ](enc:κ→Value)(kd:TypeDesc)(hs:∀ a b:κ,Instr.sameNow kd (enc a) (enc b)=some (decide (a=b)))(k:κ):∀ (ks:List κ) (es:List MapEntry) (i:Nat),es.map (·.key)=ks.map enc →
  Instr.findNow kd (enc k) es i=some ((pos k ks).bind fun j=>(es[j]?).map fun e=>(i+j,e.val))
 | [],es,i,h=>by
            obtain rfl:es=[]:=by simpa using h
            simp[Instr.findNow,pos]
 | a::ks,[],i,h=>by simp at h
 | a::ks,e::es,i,h=>by
  simp only[List.map_cons,List.cons.injEq] at h
  simp only[Instr.findNow,h.1,hs,pos]
  by_cases hk:k=a
  ·simp[hk]
  ·simp only[hk,decide_false,if_false]
   rw[Ko enc kd hs k ks es (i+1) h.2]
   cases pos k ks <;> simp[Nat.add_assoc,Nat.add_comm 1]
theorem EJ{κ:Type}[DecidableEq κ]{P:Program}{kt:TypeId}(enc:κ→Value)(hs:∀ (a b:κ) (w:World),(Op.equal kt (enc a) (enc b)).run P w=.ok (decide (a=b)) w)(k:κ)(w:World):∀ (ks:List κ) (es:List MapEntry) (i:Nat),es.map (·.key)=ks.map enc →
  (Instr.findAsking kt (enc k) es i).run P w=.ok ((pos k ks).bind fun j=>(es[j]?).map fun e=>(i+j,e.val)) w
 | [],es,i,h=>by
            obtain rfl:es=[]:=by simpa using h
            simp[Instr.findAsking,pos]
 | a::ks,[],i,h=>by simp at h
 | a::ks,e::es,i,h=>by
  simp only[List.map_cons,List.cons.injEq] at h
  simp only[Instr.findAsking,Sem.run_bind,h.1,hs,Result.andThen_ok,pos]
  by_cases hk:k=a
  ·simp[hk]
  ·simp only[hk,decide_false,if_false]
   have:=EJ enc hs k w ks es (i+1) h.2
   simp only[Bool.false_eq_true,if_false]
   rw[this]
   cases pos k ks <;> simp[Nat.add_assoc,Nat.add_comm 1]
theorem Fg{κ:Type}[DecidableEq κ]{P:Program}{kt:TypeId}{kd:TypeDesc}(enc:κ→Value)(ht:P.underlying kt=some kd)(hs:∀ a b:κ,Instr.sameNow kd (enc a) (enc b)=some (decide (a=b)))
  (hc:∀ (k:κ) (e:Bool) (w:World),(Instr.checkKey e 10000 kt (enc k)).run P w=.ok () w) (hb:∀ k:κ,Instr.sameBits 10000 (enc k) (enc k)=true):rW P kt enc :=
 ⟨hc,fun k ks es w he=>by
  simp only[Instr.findKey,Sem.run_bind,run_underlying ht,Result.andThen_ok,Ko enc kd hs k ks es 0 he,Nat.zero_add]
  rfl,hb⟩
theorem Oe{P:Program}{kt:TypeId}{q:IntKind}(ht:P.underlying kt=some (.int q)):rW P kt (fun n:Int=>Value.int q n) :=
 Fg _ ht (fun a b=>by simp only[Instr.sameNow,if_true];congr 1) (fun k e w=>by rw[show(10000:Nat)=9999+1 from rfl,Instr.checkKey];simp[run_underlying ht]) (fun k=>by rw[show(10000:Nat)=9999+1 from rfl,Instr.sameBits];simp)
theorem WC{P:Program}{kt:TypeId}(ht:P.underlying kt=some .bool):rW P kt (fun n:Bool=>Value.bool n) :=
 Fg _ ht (fun a b=>by simp only[Instr.sameNow];congr 1) (fun k e w=>by rw[show(10000:Nat)=9999+1 from rfl,Instr.checkKey];simp[run_underlying ht]) (fun k=>by rw[show(10000:Nat)=9999+1 from rfl,Instr.sameBits];simp)
abbrev BX(q:IntKind)(p:Int×Int):Value:=.agg #[.int q p.1,.int q p.2]
theorem WE{P:Program}{kt e:TypeId}{q:IntKind}{i:TypeInfo}(ht:P.underlying kt=some (.array 2 e))(he:P.underlying e=some (.int q))(hi:P.info? e=some i)(hc:P.cellsOf e=1)(hs:i.size=1):rW P kt (BX q):=by
 have heq:∀ (a b:Int×Int) (w:World),(Op.equal kt (BX q a) (BX q b)).run P w=.ok (decide (a=b)) w:=fun a b w=>by
  have:=o7 (P:=P) 9998 (q:=q) ht he hi hc [a.1,a.2] [b.1,b.2] rfl rfl w
  unfold Op.equal
  refine this.trans ?_
  congr 1
  rw[decide_eq_decide]
  simp[Prod.ext_iff]
 refine⟨fun k b w=>?_,fun k ks es w hes=>?_,fun k=>?_⟩
 ·have hsz:∀ w:World,(sizeOf e).run P w=.ok 1 w:=fun w=>by simp[sizeOf,typeInfo,hi,hs]
  have gen:∀ n,(Instr.checkKey b (n+2) kt (BX q k)).run P w=.ok () w:=fun n=>by
   rw[Instr.checkKey]
   simp only[Sem.run_bind,run_underlying ht,Result.andThen_ok]
   simp[Std.Legacy.Range.forIn_eq_forIn_range',Std.Legacy.Range.size,List.range',hsz,part,isAgg,run_underlying he,Instr.checkKey,Result.andThen]
  exact gen 9998
 ·have hf:=EJ (BX q) heq k w ks es 0 hes
  simp only[Nat.zero_add] at hf
  simp only[Instr.findKey,Sem.run_bind,run_underlying ht,Result.andThen_ok]
  cases es with
  | nil =>
   obtain rfl:ks=[]:=by simpa using hes.symm
   simp[Instr.findNow,pos]
  | cons e0 es =>
   cases ks with
   | nil=>simp at hes
   | cons a ks =>
    have hn:Instr.findNow (TypeDesc.array 2 e) (BX q k) (e0::es) 0=none:=by
     simp[Instr.findNow,Instr.sameNow]
    rw[hn];exact hf
 ·rw[show(10000:Nat)=9998+1+1 from rfl,Instr.sameBits];simp[Instr.sameBits]
end
section
open Go.RowKit
theorem Nq{P:Program}{t e:TypeId}(hu:P.underlying t=some (.array 4 e))(he:P.underlying e=some (.int .u64))(hi:(P.info? e).map (fun i=>i.size)=some 1)(s u:au)(w:World) :
  (Op.equalIn 10000 t (iK s) (iK u)).run P w=.ok (decide (s=u)) w:=by
 cases hq:P.info? e with
 | none=>simp[hq] at hi
 | some i =>
  have hs:i.size=1:=by simpa [hq] using hi
  have hc:P.cellsOf e=1:=by simp[Program.cellsOf,hq,hs]
  have:=o7 (P:=P) 9998 (q:=.u64) hu he hq hc [(word s 0:Nat),(word s 1:Nat),(word s 2:Nat),(word s 3:Nat)] [(word u 0:Nat),(word u 1:Nat),(word u 2:Nat),(word u 3:Nat)] rfl rfl w
  refine this.trans ?_
  congr 1
  rw[decide_eq_decide]
  constructor
  ·intro h
   simp only[List.cons.injEq,and_true,Int.natCast_inj] at h
   obtain⟨h0,h1,h2,h3⟩:=h
   refine word_inj fun i hi=>?_
   match i,hi with
   | 0,_=>exact h0
   | 1,_=>exact h1
   | 2,_=>exact h2
   | 3,_=>exact h3
  ·rintro rfl;rfl
end
end Go.Proofs.YtengfapcaaacaaaGreatDoor
