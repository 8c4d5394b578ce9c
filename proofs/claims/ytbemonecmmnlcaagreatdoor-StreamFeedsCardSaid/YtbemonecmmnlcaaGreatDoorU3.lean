/- The texts of T3, in few letters (mini.py). -/
import Derived.Test.YtbemonecmmnlcaaGreatDoorU2
import Derived.Lib.TrailingZeros
import Derived.Laws.AppendOwnNone
import Derived.ShutString
import Derived.Deep.Slices
set_option linter.unusedVariables false
set_option linter.unusedSimpArgs false
namespace Go.Proofs.YtbemonecmmnlcaaGreatDoor
section
open Go.RowKit
theorem yU(z:Array Value)(n k:Nat)(h:k<n)(hz:0<z.size):(madeCells z n)[k]?=z[k % z.size]?:=by
 have hm:k % z.size<z.size:=Nat.mod_lt _ hz
 simp[madeCells,h,getElem!_pos,hm]
theorem Own.made{α:Type}{enc:α→List Value}{size:Nat}(he:fD enc size)(w:World)(base E:Nat)(x0:α)(z:Array Value)(hz:z.toList=enc x0)(hpos:0<size)(n:Nat)(hn:n≤maxLen)(hb:base≤w.heap.size) :
  Own (w.alloc (.cells (madeCells z (n*size)) E)) base E size enc (.slice (some ⟨w.heap.size,0,none⟩) n n) (List.replicate n x0):=by
 have hsz:z.size=size:=by rw[←Array.length_toList,hz,he.len]
 refine⟨_,n,by rw[List.length_replicate],by rw[List.length_replicate];exact Nat.le_refl _,hn,.inr ⟨w.heap.size,_,rfl,hb,Box.new _ _ _,size_madeCells _ _,fun i hi j hj=>?_⟩⟩
 rw[List.length_replicate] at hi
 have hk:i*size+j<n*size:=by
  have:(i+1)*size≤n*size:=Nat.mul_le_mul_right _ hi
  rw[Nat.succ_mul] at this;omega
 rw[yU _ _ _ hk (by omega),hsz,List.getElem_replicate,←hz,Array.getElem?_toList]
 congr 1
 rw[Nat.add_comm,Nat.add_mul_mod_self_right,Nat.mod_eq_of_lt hj]
theorem qU{α:Type}{enc:α→List Value}{size:Nat}{P:Program}{ops:Array Oper}{rest:List Oper}{o:Oper}{a:Act}{w:World}{Q:Exit→Act→World→Prop}(hgd:o.guard=none)(t:TypeId)(x y:Operand)(ho:o.op=.makeSlice t x y)
  {E:TypeId} {z:Value} {bytes:Nat} (hE:eu P t E z size bytes) (he:fD enc size) (x0:α) (hz:z.cells.toList=enc x0) (n:Nat) (hx:a.eval x=.int .i64 n) (hy:a.eval y=.int .i64 n) (hbytes:bytes*n≤281474976710656) (h63:n≤maxLen) (base:Nat) (hb:base≤w.heap.size)
  (h:∀ w1,Own w1 base E size enc (.slice (some ⟨w.heap.size,0,none⟩) n n) (List.replicate n x0)→w1=w.alloc (.cells (madeCells z.cells (n*size)) E)→wpList P ops Q rest (a.put o.dst (.slice (some ⟨w.heap.size,0,none⟩) n n)) w1):wpList P ops Q (o::rest) a w:=by
 obtain⟨i,hi,hiz,his,hib⟩:=hE.info
 subst hib
 subst his
 refine wpList_plain hgd fun K hK=>?_
 have h63':(n:Int)≤9223372036854775807:=by have:=h63;simp[maxLen] at this;omega
 have hb':(i.bytes:Int)*(n:Int)≤281474976710656:=by
  have:((i.bytes*n:Nat):Int)≤281474976710656:=by omega
  rwa[Int.natCast_mul] at this
 have hr:=run_make (P:=P) w t E i z hE.slice hi hiz .i64 .i64 n n (Int.natCast_nonneg _) (Int.le_refl _) hb' h63'
 simp only[Int.toNat_natCast] at hr
 unfold Oper.wp execOp
 simp only[ho,hx,hy,Sem.run_bind,Sem.run_pure,Result.andThen_ok,hr,Oper.upon]
 exact hK _ _ (h _ (Own.made he w base E x0 z.cells hz hE.pos n h63 hb) rfl)
end
section
open Go.RowKit
theorem NQ{P:Program}{t e:TypeId}(hu:P.underlying t=some (.array 4 e))(he:P.underlying e=some (.int .u64))(hi:(P.info? e).map (fun i=>i.size)=some 1)(s u:aA)(w:World) :
  (Op.equalIn 10000 t (oh s) (oh u)).run P w=.ok (decide (s=u)) w:=by
 cases hq:P.info? e with
 | none=>simp[hq] at hi
 | some i =>
  have hs:i.size=1:=by simpa [hq] using hi
  have hc:P.cellsOf e=1:=by simp[Program.cellsOf,hq,hs]
  have:=pF (P:=P) 9998 (q:=.u64) hu he hq hc [(word s 0:Nat),(word s 1:Nat),(word s 2:Nat),(word s 3:Nat)] [(word u 0:Nat),(word u 1:Nat),(word u 2:Nat),(word u 3:Nat)] rfl rfl w
  refine this.trans ?_
  congr 1
  rw[decide_eq_decide]
  constructor
  ·intro h
   simp only[List.cons.injEq,and_true,Int.natCast_inj] at h
   obtain⟨h0,h1,h2,h3⟩:=h
   refine word_inj fun i hi=>?_
   match i,hi with
   | 0,_=>exact h0
   | 1,_=>exact h1
   | 2,_=>exact h2
   | 3,_=>exact h3
  ·rintro rfl;rfl
end
section
open Go.RowKit
section
variable {P:Program} {ops:Array Oper} {Q:Exit→Act→World→Prop} {md:Region.Mode} {R:World→World→Prop} {T:List Nat}
def o8(P:Program)(md:Region.Mode)(ops:Array Oper)(Q:Exit→Act→World→Prop)(R:World→World→Prop)(T:List Nat):Nat→Array Bool→Act→World→Prop
 | 0,listed,a,w=>∀ w1,R w w1→Region.ready md ops listed=[]∧Q .normal a w1
 | fuel+1,listed,a,w=>∀ w1,R w w1→(Region.ready md ops listed=[]→Q .normal a w1) ∧
   ∀ i∈Region.ready md ops listed,wpOp P ops Q i (fun a' w'=>(T.contains i=false→R w1 w')∧o8 P md ops Q R T fuel (listed.setIfInBounds i true) a' w') a w1
theorem o8.later(ht:∀ a b c,R a b→R b c→R a c):∀ {fuel:Nat} {listed:Array Bool} {a:Act} {w w':World},o8 P md ops Q R T fuel listed a w→R w w'→o8 P md ops Q R T fuel listed a w'
 | 0,_,_,_,_,h,hr=>fun w1 h1=>h w1 (ht _ _ _ hr h1)
 | _+1,_,_,_,_,h,hr=>fun w1 h1=>h w1 (ht _ _ _ hr h1)
theorem KO(hr:∀ a,R a a):∀ (fuel:Nat) (listed:Array Bool) (a:Act) (w:World),o8 P md ops Q R T fuel listed a w→wpAny P md ops Q fuel listed a w
 | 0,_,_,w,h=>h w (hr w)
 | fuel+1,_,_,w,h=>⟨(h w (hr w)).1,fun i hi=>wpOp_mono (fun a' w' h'=>KO hr fuel _ a' w' h'.2) ((h w (hr w)).2 i hi)⟩
theorem Fg(hrefl:∀ a,R a a)(ht:∀ a b c,R a b→R b c→R a c){i:Nat}{oi:Oper}{v:Value}(hi:ops[i]?=some oi)(hsel:∀ (j:Nat) (o:Oper) cs b,ops[j]?=some o→o.op≠.select cs b)
  (hQ:∀ c a w,Q (.panic c) (a.put oi.dst v) w→Q (.panic c) a w) (hit:T.contains i=false):∀ (fuel:Nat) (listed:Array Bool) (a:Act) (w:World),Cl md ops listed →
   (∀ j oj,ops[j]?=some oj→j≠i→listed.getD j true=false→(∀ e∈oj.after,Region.binds md e=true→e.on≠i)→oi.apart ops oj=true) →
   i∈Region.ready md ops listed→((Gives P ops R oi v a w∧∀ t∈T,needs md ops i ops.size t=true)∨∀ w0,Gives P ops R oi v a w0) →
   o8 P md ops Q R T fuel (listed.setIfInBounds i true) (a.put oi.dst v) w→o8 P md ops Q R T (fuel+1) listed a w:=by
 intro fuel
 induction fuel with
 | zero =>
  intro listed a w _ _ hr hg H w1 hw1
  have hy:Gives P ops R oi v a w:=hg.elim (·.1) (· w)
  refine⟨fun h=>(by rw[h] at hr;cases hr),fun j hj=>?_⟩
  by_cases hji:j=i
  ·subst hji
   exact hy.wpOp hrefl hi hw1 fun w2 h2=>⟨fun _=>h2,fun w3 h3=>H w3 (ht _ _ _ hw1 (ht _ _ _ h2 h3))⟩
  ·have:=ready_mono hj hji
   rw[(H w (hrefl _)).1] at this
   cases this
 | succ fuel ih =>
  intro listed a w hcl hfree hr hg H w1 hw1
  have hy:Gives P ops R oi v a w:=hg.elim (·.1) (· w)
  refine⟨fun h=>(by rw[h] at hr;cases hr),fun j hj=>?_⟩
  by_cases hji:j=i
  ·subst hji
   exact hy.wpOp hrefl hi hw1 fun w2 h2=>⟨fun _=>h2,o8.later ht H (ht _ _ _ hw1 h2)⟩
  ·have h1:=(H w1 hw1).2 j (ready_mono hj hji)
   obtain⟨hjun,oj,hoj,hall⟩:=mem_ready.1 hj
   have hjt:(∀ t∈T,needs md ops i ops.size t=true)→T.contains j=false:=fun hn=>by
    cases hc:T.contains j with
    | false=>rfl
    | true =>
     have h5:=zX hcl _ _ _ hoj hall (hn j (by simpa using hc))
     have h6:=(mem_ready.1 hr).1
     rcases Nat.lt_or_ge i listed.size with h' | h'
     ·simp[h'] at h5 h6;rw[h6] at h5;cases h5
     ·simp[Array.getElem?_eq_none h'] at h5
   have hnot:∀ e∈oj.after,Region.binds md e=true→e.on≠i:=fun e he hb heq=>by
    have h1:=hall e he hb
    have h0:=(mem_ready.1 hr).1
    rw[heq] at h1
    rcases Nat.lt_or_ge i listed.size with h' | h'
    ·simp[h'] at h0 h1;rw[h0] at h1;cases h1
    ·simp[Array.getElem?_eq_none h'] at h1
   have h2:=OG (R:=R) hoj (hfree j oj hoj hji hjun hnot) (fun cs b=>hsel i oi cs b hi) (fun cs b=>hsel j oj cs b hoj) hQ h1
   have hfree':∀ k ok,ops[k]?=some ok→k≠i→(listed.setIfInBounds j true).getD k true=false →
     (∀ e∈ok.after,Region.binds md e=true→e.on≠i)→oi.apart ops ok=true:=fun k ok hk hki hun hno=>by
    refine hfree k ok hk hki ?_ hno
    by_cases hjk:j=k
    ·subst hjk;exact hjun
    ·rw[getD_set_ne true hjk] at hun;exact hun
   refine wpOp_mono (fun a' w' h3=>⟨h3.2.1,ih (listed.setIfInBounds j true) a' w' (hcl.step hj) hfree' (ready_mono hr (Ne.symm hji)) (hg.elim (fun hg=>.inl ⟨h3.1 _ (hy.later ht (ht _ _ _ hw1 (h3.2.1 (hjt hg.2)))),hg.2⟩) (fun hg=>.inr fun w0=>h3.1 w0 (hg w0))) ?_⟩) h2
   rw[Array.setIfInBounds_comm _ _ hji]
   exact h3.2.2
end
section
variable {P:Program} {ops:Array Oper} {Q:Exit→Act→World→Prop} {md:Region.Mode} {T:List Nat} {R:World→World→Prop}
theorem xq{listed:Array Bool}{i:Nat}(hc:(uU md ops listed&&T.all (needs md ops i ops.size ·)&&!T.contains i)=true):Cl md ops listed∧(∀ t∈T,needs md ops i ops.size t=true)∧T.contains i=false:=by
 simp only[Bool.and_eq_true,Bool.not_eq_true',List.all_eq_true] at hc
 exact⟨Cl.ofB hc.1.1,hc.1.2,hc.2⟩
theorem OO{listed:Array Bool}{i:Nat}(hc:(uU md ops listed&&!T.contains i)=true):Cl md ops listed∧T.contains i=false:=by
 simp only[Bool.and_eq_true,Bool.not_eq_true'] at hc
 exact⟨Cl.ofB hc.1,hc.2⟩
theorem DX[hR:jv R]{i:Nat}{oi:Oper}{v:Value}{fuel:Nat}{listed:Array Bool}{a:Act}{w:World}(hi:ops[i]?=some oi)
  (hs:Region.noSelect ops=true) (hf:Region.free md ops listed i=true) (hr:(Region.ready md ops listed).contains i=true) (hc:(uU md ops listed&&T.all (needs md ops i ops.size ·)&&!T.contains i)=true)
  (hQ:∀ c a w,Q (.panic c) (a.put oi.dst v) w→Q (.panic c) a w) (hw:Region.wanted oi (yielded ops a.tmps)=true) (hy:∀ w1,R w w1→(execOp a.eval oi).run P w1=.ok (.value v) w1)
  (h:o8 P md ops Q R T fuel (listed.setIfInBounds i true) (a.put oi.dst v) w):o8 P md ops Q R T (fuel+1) listed a w :=
 Fg hR.refl hR.trans hi (Region.noSelect_spec hs) hQ (xq hc).2.2 fuel listed a w (xq hc).1 (Region.free_spec hi hf) (by simpa using hr) (.inl ⟨.inl ⟨hw,fun w1 h1=>.inl (hy w1 h1)⟩,(xq hc).2.1⟩) h
theorem acz[hR:jv R]{i:Nat}{oi:Oper}{v:Value}{fuel:Nat}{listed:Array Bool}{a:Act}{w:World}(hi:ops[i]?=some oi)
  (hs:Region.noSelect ops=true) (hf:Region.free md ops listed i=true) (hr:(Region.ready md ops listed).contains i=true) (hc:(uU md ops listed&&!T.contains i)=true)
  (hQ:∀ c a w,Q (.panic c) (a.put oi.dst v) w→Q (.panic c) a w) (hw:Region.wanted oi (yielded ops a.tmps)=true) (hy:∀ w1,(execOp a.eval oi).run P w1=.ok (.value v) w1)
  (h:o8 P md ops Q R T fuel (listed.setIfInBounds i true) (a.put oi.dst v) w):o8 P md ops Q R T (fuel+1) listed a w :=
 Fg hR.refl hR.trans hi (Region.noSelect_spec hs) hQ (OO hc).2 fuel listed a w (OO hc).1 (Region.free_spec hi hf) (by simpa using hr) (.inr fun _=>.inl ⟨hw,fun w1 _=>.inl (hy w1)⟩) h
theorem acA[hR:jv R]{i:Nat}{oi:Oper}{v:Value}{fuel:Nat}{listed:Array Bool}{a:Act}{w:World}{f:FuncId}{args:Array Value}(hi:ops[i]?=some oi)
  (hs:Region.noSelect ops=true) (hf:Region.free md ops listed i=true) (hr:(Region.ready md ops listed).contains i=true) (hc:(uU md ops listed&&T.all (needs md ops i ops.size ·)&&!T.contains i)=true)
  (hQ:∀ c a w,Q (.panic c) (a.put oi.dst v) w→Q (.panic c) a w) (hw:Region.wanted oi (yielded ops a.tmps)=true) (he:∀ w1,(execOp a.eval oi).run P w1=.ok (.enter f args) w1)
  (hy:∀ w1,R w w1→Calls P f args w1 (bM w1 v))
  (h:o8 P md ops Q R T fuel (listed.setIfInBounds i true) (a.put oi.dst v) w):o8 P md ops Q R T (fuel+1) listed a w :=
 Fg hR.refl hR.trans hi (Region.noSelect_spec hs) hQ (xq hc).2.2 fuel listed a w (xq hc).1 (Region.free_spec hi hf) (by simpa using hr) (.inl ⟨.inl ⟨hw,fun w1 h1=>.inr ⟨f,args,he w1,(hy w1 h1).mono fun _ _ k=>⟨k.1,hR.later _ _ k.2⟩⟩⟩,(xq hc).2.1⟩) h
theorem fH{i:Nat}{oi:Oper}{fuel:Nat}{listed:Array Bool}{a:Act}{w:World}(hr:Region.ready md ops listed=[i])(hi:ops[i]?=some oi)
  (h:∀ w1,R w w1→∀ K:Act→World→Prop,Shut (∀ a' w',(T.contains i=false→R w1 w')→o8 P md ops Q R T fuel (listed.setIfInBounds i true) a' w'→K a' w')→if Region.wanted oi (yielded ops a.tmps)=true then Oper.wp P oi a w1 K Q else K (a.put oi.dst undef) w1) :
  o8 P md ops Q R T (fuel+1) listed a w:=fun w1 h1=>by
 refine⟨fun h0=>(by rw[hr] at h0;cases h0),fun j hj=>?_⟩
 rw[hr,List.mem_singleton] at hj
 subst hj
 exact wpOp_step hi (fun K' hK=>h w1 h1 K' (fun a' w' k1 k2=>hK a' w' ⟨k1,k2⟩))
theorem nK{listed:Array Bool}{a:Act}{w:World}(hr:Region.ready md ops listed=[])(h:∀ w1,R w w1→Q .normal a w1):∀ fuel,o8 P md ops Q R T fuel listed a w
 | 0=>fun w1 h1=>⟨hr,h w1 h1⟩
 | _+1=>fun w1 h1=>⟨fun _=>h w1 h1,by rw[hr];simp⟩
theorem jq[hR:jv R](T:List Nat){id:Nat}{a:Act}{w:World}(hm:P.follows .mixedOrders=true)
  (h:o8 P .any ops Q R T ops.size (Array.replicate ops.size false) a w.drew):(Code.region id ops true).wp P Q a w :=
 wp_region_any hm (KO hR.refl _ _ _ _ h)
theorem EJ[hR:jv R](i:Nat){oi:Oper}(v:Value){fuel:Nat}{listed:Array Bool}{a:Act}{w:World}(hi:ops[i]?=some oi)(hy:∀ w1,R w w1→(execOp a.eval oi).run P w1=.ok (.value v) w1)
  (h:o8 P md ops Q R T fuel (listed.setIfInBounds i true) (a.put oi.dst v) w) (hw:Region.wanted oi (yielded ops a.tmps)=true:=by rfl)
  (hc:(Region.noSelect ops&&(Region.free md ops listed i&&((Region.ready md ops listed).contains i&&(uU md ops listed&&T.all (needs md ops i ops.size ·)&&!T.contains i))))=true:=by kernel_rfl)
  (hQ:∀ c a w,Q (.panic c) (a.put oi.dst v) w→Q (.panic c) a w:=by exact fun _ _ _ h=>h):o8 P md ops Q R T (fuel+1) listed a w:=by
 rw[Bool.and_eq_true,Bool.and_eq_true,Bool.and_eq_true] at hc
 exact DX hi hc.1 hc.2.1 hc.2.2.1 hc.2.2.2 hQ hw hy h
theorem QK[hR:jv R](i:Nat){oi:Oper}(v:Value){fuel:Nat}{listed:Array Bool}{a:Act}{w:World}(hi:ops[i]?=some oi)(hy:∀ w1,(execOp a.eval oi).run P w1=.ok (.value v) w1)
  (h:o8 P md ops Q R T fuel (listed.setIfInBounds i true) (a.put oi.dst v) w) (hw:Region.wanted oi (yielded ops a.tmps)=true:=by rfl)
  (hc:(Region.noSelect ops&&(Region.free md ops listed i&&((Region.ready md ops listed).contains i&&(uU md ops listed&&!T.contains i))))=true:=by kernel_rfl)
  (hQ:∀ c a w,Q (.panic c) (a.put oi.dst v) w→Q (.panic c) a w:=by exact fun _ _ _ h=>h):o8 P md ops Q R T (fuel+1) listed a w:=by
 rw[Bool.and_eq_true,Bool.and_eq_true,Bool.and_eq_true] at hc
 exact acz hi hc.1 hc.2.1 hc.2.2.1 hc.2.2.2 hQ hw hy h
theorem qV[hR:jv R]{i:Nat}{l:List Nat}{oi:Oper}(v:Value){fuel:Nat}{listed:Array Bool}{a:Act}{w:World}(hi:ops[i]?=some oi)(hy:∀ w1,(execOp a.eval oi).run P w1=.ok (.value v) w1)
  (h:Pl l (o8 P md ops Q R T fuel (listed.setIfInBounds i true) (a.put oi.dst v) w)) (hw:Region.wanted oi (yielded ops a.tmps)=true:=by rfl)
  (hc:(Region.noSelect ops&&(Region.free md ops listed i&&((Region.ready md ops listed).contains i&&(uU md ops listed&&!T.contains i))))=true:=by kernel_rfl)
  (hQ:∀ c a w,Q (.panic c) (a.put oi.dst v) w→Q (.panic c) a w:=by exact fun _ _ _ h=>h):Pl (i::l) (o8 P md ops Q R T (fuel+1) listed a w):=by
 unfold Pl at *
 exact QK i v hi hy h hw hc hQ
theorem clT[hR:jv R](i:Nat){oi:Oper}(f:FuncId)(args:Array Value)(v:Value){fuel:Nat}{listed:Array Bool}{a:Act}{w:World}(hi:ops[i]?=some oi)
  (he:∀ w1,(execOp a.eval oi).run P w1=.ok (.enter f args) w1) (hy:∀ w1,R w w1→Calls P f args w1 (bM w1 v))
  (h:o8 P md ops Q R T fuel (listed.setIfInBounds i true) (a.put oi.dst v) w) (hw:Region.wanted oi (yielded ops a.tmps)=true:=by rfl)
  (hc:(Region.noSelect ops&&(Region.free md ops listed i&&((Region.ready md ops listed).contains i&&(uU md ops listed&&T.all (needs md ops i ops.size ·)&&!T.contains i))))=true:=by kernel_rfl)
  (hQ:∀ c a w,Q (.panic c) (a.put oi.dst v) w→Q (.panic c) a w:=by exact fun _ _ _ h=>h):o8 P md ops Q R T (fuel+1) listed a w:=by
 rw[Bool.and_eq_true,Bool.and_eq_true,Bool.and_eq_true] at hc
 exact acA hi hc.1 hc.2.1 hc.2.2.1 hc.2.2.2 hQ hw he hy h
end
end
section
open Go.RowKit
theorem Own.less{α:Type}{w:World}{base E size n cap:Nat}{enc:α→List Value}{a:Option Addr}{xs ys:List α}(h:Own w base E size enc (.slice a n cap) (xs++ys)):Own w base E size enc (.slice a xs.length cap) xs:=by
 obtain⟨a',cap',hv,hle,hm,hh⟩:=h
 obtain⟨rfl,_,rfl⟩:=Value.slice.inj hv
 rw[List.length_append] at hle
 refine⟨_,_,rfl,by omega,hm,?_⟩
 rcases hh with hh | ⟨g,cur,ha,hbg,hg,hs,hx⟩
 ·exact .inl hh
 ·refine .inr ⟨g,cur,ha,hbg,hg,hs,fun i hi j hj=>?_⟩
  have:=hx i (by rw[List.length_append];omega) j hj
  rwa[List.getElem_append_left hi] at this
end
section
open Go.RowKit
def Halt(p:Prop):Prop:=p
theorem Halt.go{p:Prop}(h:Halt p):p:=h
theorem Halt.gen{P:Program}{ops:Array Oper}{l:List Oper}{Q:Exit→Act→World→Prop}{a:Act}{w:World}(h:∀ W,W=w→wpList P ops Q l a W):Halt (wpList P ops Q l a w):=h w rfl
end
section
def jw(v:Nat):List Nat:=(List.range 64).filter fun j=>v.testBit j
theorem Ir:jw 0=[]:=by simp[jw]
theorem QL(v:Nat)(h0:v≠0)(h:v<18446744073709551616):jw v=Lib.ctz 64 v::jw (v &&& (v - 1))∧Lib.ctz 64 v<64∧v &&& (v - 1)<v:=by
 obtain⟨m,hm,hk⟩:=Lib.ctzFrom_spec 64 v (by omega) h
 have e:Lib.ctz 64 v=Lib.ctzFrom 64 v:=by simp[Lib.ctz,h0]
 rw[e]
 generalize Lib.ctzFrom 64 v=k at *
 have hp:0<2 ^ k:=Nat.pow_pos (by decide)
 have h1:v - 1=2 ^ k*(2*m)+(2 ^ k - 1):=by rw[hm,Nat.mul_add];omega
 have tv:∀ j,v.testBit j=(decide (k≤j)&&(2*m+1).testBit (j - k)):=fun j=>by rw[hm,Nat.testBit_two_pow_mul]
 have tp:∀ j,(v &&& (v - 1)).testBit j=(decide (k<j)&&v.testBit j):=fun j=>by
  rw[Nat.testBit_and,h1,Nat.testBit_two_pow_mul_add _ (by omega),tv]
  by_cases a:j<k
  ·simp[a,show ¬ k≤j by omega,show ¬ k<j by omega]
  ·by_cases b:j=k
   ·subst b;simp
   ·obtain⟨d,rfl⟩:∃ d,j=k+(d+1):=⟨j - k - 1,by omega⟩
    rw[show k+(d+1) - k=d+1 by omega]
    simp[Nat.testBit_succ,show ¬ k+(d+1)<k by omega,show k≤k+(d+1) by omega,show k<k+(d+1) by omega]
    rw[show(2*m+1) / 2=m by omega]
    exact id
 refine⟨?_,hk,?_⟩
 ·unfold jw
  have hr:List.range 64=List.range k++(k::(List.range (64 - (k+1))).map (k+1+·)):=by
   rw[show(64:Nat)=(k+1)+(64 - (k+1)) by omega,List.range_add,List.range_succ]
   simp
  rw[hr,List.filter_append,List.filter_append,List.filter_cons,List.filter_cons]
  have f1:(List.range k).filter (fun j=>v.testBit j)=[]:=List.filter_eq_nil_iff.2 fun x hx=>by rw[tv];simp[Nat.not_le.2 (List.mem_range.1 hx)]
  have f2:(List.range k).filter (fun j=>(v &&& (v - 1)).testBit j)=[]:=List.filter_eq_nil_iff.2 fun x hx=>by rw[tp];simp[Nat.not_lt.2 (Nat.le_of_lt (List.mem_range.1 hx))]
  have f3:v.testBit k=true:=by rw[tv];simp
  have f4:(v &&& (v - 1)).testBit k=false:=by rw[tp];simp
  rw[f1,f2,f3,f4]
  simp only[List.nil_append,if_true,Bool.false_eq_true,if_false]
  congr 1
  refine List.filter_congr fun x hx=>?_
  obtain⟨y,_,rfl⟩:=List.mem_map.1 hx
  rw[tp];simp[show k<k+1+y by omega]
 ·exact Nat.lt_of_le_of_lt Nat.and_le_right (by omega)
def jX(i v:Nat):List Nat:=(jw v).map (64*i+·)
def elems(s:aA):List Nat:=(List.range 256).filter (mem s)
def zC(s:aA):Nat→Nat→List Nat
 | _,0=>[]
 | i,f+1=>jX i (word s i)++zC s (i+1) f
theorem QM(s:aA)(i:Nat):((List.range 64).map (64*i+·)).filter (mem s)=jX i (word s i):=by
 rw[List.filter_map]
 unfold jX jw
 congr 1
 refine List.filter_congr fun x hx=>?_
 rw[kD];simp[List.mem_range.1 hx]
theorem Iu(s:aA):elems s=zC s 0 4:=by
 unfold elems
 rw[show List.range 256=(List.range 64).map (64*0+·)++((List.range 64).map (64*1+·)++((List.range 64).map (64*2+·)++(List.range 64).map (64*3+·))) by decide +kernel]
 simp only[List.filter_append,QM,zC,List.append_nil]
theorem acB{s:aA}{x:Nat}(h:x∈elems s):x<256:=List.mem_range.1 (List.mem_filter.1 h).1
theorem Qh(s:aA):leastOf s=match elems s with | []=>-1 | b::_=>(b:Int):=by
 unfold leastOf elems
 generalize List.range 256=l
 induction l with
 | nil=>rfl
 | cons a l ih =>
  rw[List.find?_cons,List.filter_cons]
  cases mem s a
  ·simpa using ih
  ·rfl
end
section
open Go.RowKit
def gY(n s:Nat):List Nat:=(List.range n).filter fun i=>s.testBit i
def jy(n:Nat)(st:Nat×List Nat)(s:Nat):Nat×List Nat:=if s<n∧st.1.testBit s=false then (st.1 ||| 1 <<< s,st.2++[s]) else st
def qW(n:Nat)(goes:Nat→List Nat):Nat→Nat×List Nat→Nat
 | 0,st=>st.1
 | f+1,st=>match st.2.getLast? with
  | none=>st.1
  | some s=>qW n goes f ((goes s).foldl (jy n) (st.1,st.2.dropLast))
def eH(S k:Nat):Nat:=S >>> (64*k) % 18446744073709551616
def je(m S:Nat):List Nat:=(List.range m).map (eH S)
theorem DY(S k:Nat):eH S k<18446744073709551616:=Nat.mod_lt _ (by decide)
theorem uV(S k j:Nat):(eH S k).testBit j=(decide (j<64)&&S.testBit (64*k+j)):=by
 unfold eH
 rw[show(18446744073709551616:Nat)=2 ^ 64 from rfl,Nat.testBit_mod_two_pow,Nat.testBit_shiftRight]
theorem Xw(m S:Nat):(je m S).length=m:=by simp[je]
theorem KP(m S k:Nat)(h:k<(je m S).length):(je m S)[k]=eH S k:=by simp[je]
theorem Zw(S i k:Nat):eH (S ||| 1 <<< i) k=if k=i / 64 then eH S k ||| 1 <<< (i % 64) else eH S k:=by
 apply Nat.eq_of_testBit_eq
 intro j
 rw[uV,Nat.testBit_or,Nat.one_shiftLeft,Nat.testBit_two_pow]
 split
 ·rename_i h
  subst h
  rw[Nat.testBit_or,uV,Nat.one_shiftLeft,Nat.testBit_two_pow]
  by_cases hj:j<64
  ·have:(i=64*(i / 64)+j)↔(i % 64=j):=by omega
   simp[hj,this]
  ·have:¬ i % 64=j:=by omega
   simp[hj,this]
 ·rename_i h
  rw[uV]
  by_cases hj:j<64
  ·have:¬ i=64*k+j:=by omega
   simp[hj,this]
  ·simp[hj]
theorem Xx(m S i:Nat):je m (S ||| 1 <<< i)=(je m S).set (i / 64) (eH S (i / 64) ||| 1 <<< (i % 64)):=by
 apply List.ext_getElem
 ·simp[je]
 ·intro k h1 h2
  rw[KP,List.getElem_set,KP,Zw]
  by_cases h:k=i / 64
  ·rw[if_pos h,if_pos h.symm,h]
  ·rw[if_neg h,if_neg fun e=>h e.symm]
theorem Zx(n S i:Nat)(hi:i<n)(hS:S<2 ^ n):S ||| 1 <<< i<2 ^ n:=by
 apply Nat.or_lt_two_pow hS
 rw[Nat.one_shiftLeft]
 exact Nat.pow_lt_pow_right (by decide) hi
theorem Xy(n m S:Nat)(h:n≤m)(hS:S<2 ^ n):gY m S=gY n S:=by
 unfold gY
 obtain⟨d,rfl⟩:∃ d,m=n+d:=⟨m - n,by omega⟩
 rw[List.range_add,List.filter_append]
 have:((List.range d).map (n+·)).filter (fun i=>S.testBit i)=[]:=List.filter_eq_nil_iff.2 fun x hx=>by
  obtain⟨y,_,rfl⟩:=List.mem_map.1 hx
  rw[Nat.testBit_lt_two_pow (Nat.lt_of_lt_of_le hS (Nat.pow_le_pow_right (by decide) (Nat.le_add_right _ _)))]
  simp
 rw[this,List.append_nil]
def xP(S:Nat):Nat→Nat→List Nat
 | _,0=>[]
 | i,f+1=>jX i (eH S i)++xP S (i+1) f
theorem Xz(S i:Nat):((List.range 64).map (64*i+·)).filter (fun x=>S.testBit x)=jX i (eH S i):=by
 rw[List.filter_map]
 unfold jX jw
 congr 1
 refine List.filter_congr fun x hx=>?_
 rw[uV];simp[List.mem_range.1 hx]
theorem Iw(S:Nat):∀ (f i:Nat),xP S i f=((List.range (64*f)).map (64*i+·)).filter (fun x=>S.testBit x)
 | 0,i=>by simp[xP]
 | f+1,i=>by
  rw[xP,Iw S f,←Xz,show 64*(f+1)=64+64*f by omega,List.range_add,List.map_append,List.filter_append]
  congr 2
  rw[List.map_map]
  refine List.map_congr_left fun x _=>?_
  show 64*(i+1)+x=64*i+(64+x)
  omega
theorem XA(n m S:Nat)(h:n≤64*m)(hS:S<2 ^ n):gY n S=xP S 0 m:=by
 rw[←Xy n _ S h hS,Iw]
 simp[gY]
theorem Fh{n S i:Nat}:i∈gY n S↔i<n∧S.testBit i=true:=by
 unfold gY;rw[List.mem_filter,List.mem_range]
theorem OQ(n S:Nat):(gY n S).length≤n:=by
 have:=List.length_filter_le (fun i=>S.testBit i) (List.range n)
 simpa [gY] using this
theorem acC(n S:Nat)(hS:S<2 ^ n):(gY n S).foldl (fun T i=>T ||| 1 <<< i) 0=S:=by
 have key:∀ (l:List Nat) (T j:Nat),(l.foldl (fun T i=>T ||| 1 <<< i) T).testBit j=(T.testBit j||decide (j∈l)):=by
  intro l
  induction l with
  | nil=>intro T j;simp
  | cons a l ih =>
   intro T j
   rw[List.foldl_cons,ih,Nat.testBit_or,Nat.one_shiftLeft,Nat.testBit_two_pow]
   by_cases h:a=j
   ·subst h;simp
   ·have h':¬ j=a:=fun e=>h e.symm
    simp[h,h']
 apply Nat.eq_of_testBit_eq
 intro j
 rw[key,Nat.zero_testBit,Bool.false_or]
 by_cases hj:j<n
 ·rw[Bool.eq_iff_iff,decide_eq_true_eq,Fh];simp[hj]
 ·have hp:2 ^ n≤2 ^ j:=Nat.pow_le_pow_right (by decide) (by omega)
  rw[Nat.testBit_lt_two_pow (by omega),decide_eq_false]
  rw[Fh];omega
def zY:List UInt8→Nat
 | []=>0
 | b::l=>b.toNat+256*zY l
def nV(w i:Nat):UInt8:=UInt8.ofNat (w >>> (8*i))
def vS(w:Nat):List UInt8:=(List.range 8).map (nV w)
def uj:List Nat→Nat
 | []=>0
 | w::l=>w+18446744073709551616*uj l
def vT(S:Nat):Nat→Nat
 | 0=>0
 | n+1=>if eH S n=0 then vT S n else n+1
def Jv(m S:Nat):List UInt8:=(je (vT S m) S).flatMap vS
theorem Iy:∀ (a b:List UInt8),zY (a++b)=zY a+256 ^ a.length*zY b
 | [],b=>by simp[zY]
 | x::a,b=>by
  rw[List.cons_append,zY,zY,Iy a b,List.length_cons,Nat.pow_succ,Nat.mul_add]
  rw[Nat.mul_comm (256 ^ a.length) 256,Nat.mul_assoc];omega
theorem XB(w:Nat)(h:w<18446744073709551616):zY (vS w)=w:=by
 have e:vS w=[nV w 0,nV w 1,nV w 2,nV w 3,nV w 4,nV w 5,nV w 6,nV w 7]:=rfl
 have f:∀ i,(nV w i).toNat=w / 2 ^ (8*i) % 256:=fun i=>by
  unfold nV;rw[UInt8.toNat_ofNat',Nat.shiftRight_eq_div_pow]
 rw[e]
 simp only[zY,f]
 simp only[Nat.reduceMul,Nat.reducePow,Nat.pow_zero,Nat.div_one,Nat.mul_zero,Nat.add_zero]
 omega
theorem KQ:∀ (l:List Nat),(∀ x∈l,x<18446744073709551616)→zY (l.flatMap vS)=uj l
 | [],_=>rfl
 | w::l,h=>by
  rw[List.flatMap_cons,Iy,XB w (h w (by simp)),uj,KQ l fun x hx=>h x (by simp[hx]),show(vS w).length=8 by simp[vS]]
theorem BX:∀ (a b:List Nat),uj (a++b)=uj a+18446744073709551616 ^ a.length*uj b
 | [],b=>by simp[uj]
 | x::a,b=>by
  rw[List.cons_append,uj,uj,BX a b,List.length_cons,Nat.pow_succ,Nat.mul_add]
  rw[Nat.mul_comm (18446744073709551616 ^ a.length) 18446744073709551616,Nat.mul_assoc];omega
theorem xQ(n S:Nat):je (n+1) S=je n S++[eH S n]:=by unfold je;rw[List.range_succ,List.map_append];rfl
theorem QN(S:Nat):∀ m,uj (je (vT S m) S)=uj (je m S)
 | 0=>rfl
 | n+1=>by
  rw[vT]
  split
  ·rename_i h
   rw[QN S n,xQ,BX,h];simp[uj]
  ·rfl
theorem KR(S:Nat):∀ m,uj (je m S)=S % 18446744073709551616 ^ m
 | 0=>by simp[je,uj,Nat.mod_one]
 | n+1=>by
  rw[xQ,BX,KR S n,Xw,uj,uj,Nat.mul_zero,Nat.add_zero,Nat.pow_succ,Nat.mod_mul]
  unfold eH
  rw[Nat.shiftRight_eq_div_pow,Nat.pow_mul]
theorem QO(m S:Nat)(h:S<2 ^ (64*m)):zY (Jv m S)=S:=by
 unfold Jv
 rw[KQ _ (fun x hx=>by
  obtain⟨k,_,rfl⟩:=List.mem_map.1 hx
  exact DY _ _),QN,KR,Nat.mod_eq_of_lt]
 rw[Nat.pow_mul] at h;exact h
theorem acD{m S T:Nat}(hS:S<2 ^ (64*m))(hT:T<2 ^ (64*m))(h:Jv m S=Jv m T):S=T:=by
 rw[←QO m S hS,h,QO m T hT]
def lacks(n S:Nat):Nat:=((List.range n).filter fun i=>!S.testBit i).length
theorem Zy(n S i:Nat)(hi:i<n)(h:S.testBit i=false):lacks n (S ||| 1 <<< i)+1=lacks n S:=by
 have tb:∀ j,(S ||| 1 <<< i).testBit j=(S.testBit j||decide (i=j)):=fun j=>by rw[Nat.testBit_or,Nat.one_shiftLeft,Nat.testBit_two_pow]
 unfold lacks
 obtain⟨d,rfl⟩:∃ d,n=i+1+d:=⟨n - (i+1),by omega⟩
 rw[List.range_add,List.range_succ]
 simp only[List.filter_append,List.length_append]
 have e1:(List.range i).filter (fun j=>!(S ||| 1 <<< i).testBit j)=(List.range i).filter (fun j=>!S.testBit j):=List.filter_congr fun x hx=>by
  rw[tb,decide_eq_false (by have:=List.mem_range.1 hx;omega),Bool.or_false]
 have e2:((List.range d).map (i+1+·)).filter (fun j=>!(S ||| 1 <<< i).testBit j)=((List.range d).map (i+1+·)).filter (fun j=>!S.testBit j):=List.filter_congr fun x hx=>by
  obtain⟨y,_,rfl⟩:=List.mem_map.1 hx
  rw[tb,decide_eq_false (by omega),Bool.or_false]
 have e3:[i].filter (fun j=>!(S ||| 1 <<< i).testBit j)=[]:=by simp[tb]
 have e4:[i].filter (fun j=>!S.testBit j)=[i]:=by simp[h]
 rw[e1,e2,e3,e4]
 simp
 omega
theorem acE(n:Nat)(st:Nat×List Nat)(s:Nat):(jy n st s).2.length+lacks n (jy n st s).1=st.2.length+lacks n st.1:=by
 unfold jy
 split
 ·rename_i h
  have:=Zy n st.1 s h.1 h.2
  simp;omega
 ·rfl
theorem AY(n:Nat)(l:List Nat)(st:Nat×List Nat):(l.foldl (jy n) st).2.length+lacks n (l.foldl (jy n) st).1=st.2.length+lacks n st.1:=by
 induction l generalizing st with
 | nil=>rfl
 | cons a l ih=>rw[List.foldl_cons,ih,acE]
theorem agm(n:Nat)(st:Nat×List Nat)(s:Nat)(h:st.1<2 ^ n):(jy n st s).1<2 ^ n:=by
 unfold jy
 split
 ·rename_i h1;exact Zx n _ _ h1.1 h
 ·exact h
theorem QS(n S:Nat):lacks n S≤n:=by
 have:=List.length_filter_le (fun i=>!S.testBit i) (List.range n)
 simpa [lacks] using this
theorem UU(n:Nat)(goes:Nat→List Nat)(f:Nat)(st:Nat×List Nat)(s:Nat)(ws:List Nat)(h:st.2=ws++[s]):qW n goes (f+1) st=qW n goes f ((goes s).foldl (jy n) (st.1,ws)):=by
 rw[qW,h,List.getLast?_concat,List.dropLast_concat]
theorem UW(n:Nat)(goes:Nat→List Nat)(f:Nat)(st:Nat×List Nat)(h:st.2=[]):qW n goes f st=st.1:=by
 cases f with
 | zero=>rfl
 | succ f=>rw[qW,h];rfl
end
section
open Go.RowKit
theorem Own.empty'{α:Type}{w:World}{b:Nat}(hb:b=w.heap.size)(base E size:Nat)(enc:α→List Value)(h:base≤w.heap.size):Own (w.alloc (.cells #[] E)) base E size enc (.slice (some ⟨b,0,none⟩) 0 0) []:=by
 subst hb;exact Own.empty w base E size enc h
theorem gV.open{α:Type}{w w':World}{E size:Nat}{enc:α→List Value}{L:List α}{e:Ending}(h:gV w E size enc L e w'):∃ (a:Option Addr) (cap:Nat),e=.returned (.slice a L.length cap)∧Own w' w.heap.size E size enc (.slice a L.length cap) L∧Below w.heap.size w w':=h
end
section
def qG(c:Nat):Nat→Nat
 | 0=>0
 | n+1=>c+256*qG c n
def kS(f:Nat→Nat):Nat→Nat→Nat
 | 0,_=>0
 | n+1,x=>f (x % 256)+256*kS f n (x / 256)
theorem acF(x y:Nat):x &&& y=(x % 256 &&& y % 256)+256*(x / 256 &&& y / 256):=by
 have h1:=Nat.and_mod_two_pow (a:=x) (b:=y) (n:=8)
 have h2:=Nat.and_div_two_pow (a:=x) (b:=y) (n:=8)
 have e:(2:Nat) ^ 8=256:=rfl
 rw[e] at h1 h2
 rw[←h1,←h2]
 omega
theorem CX(c:Nat)(hc:c<256)(n x:Nat):x &&& qG c (n+1)=(x % 256 &&& c)+256*(x / 256 &&& qG c n):=by
 rw[acF]
 simp only[qG]
 rw[show(c+256*qG c n) % 256=c by omega,show(c+256*qG c n) / 256=qG c n by omega]
def f1(b:Nat):Nat:=(b / 2 &&& 85)+(b &&& 85)
def f2(b:Nat):Nat:=(b / 4 &&& 51)+(b &&& 51)
def pop8(b:Nat):Nat:=(f2 (f1 b) / 16+f2 (f1 b)) % 16
theorem k1:∀ a,a<256→∀ e,e<2→(a / 2+128*e) &&& 85=a / 2 &&& 85:=by decide +kernel
theorem k2:∀ a,a<256→∀ e,e<4→(a / 4+64*e) &&& 51=a / 4 &&& 51:=by decide +kernel
theorem b1:∀ b,b<256→f1 b<256:=by decide +kernel
theorem b2:∀ b,b<256→f2 (f1 b)≤68∧f2 (f1 b) % 16≤4:=by decide +kernel
theorem b3:∀ b,b<256→pop8 b≤8∧pop8 b=((List.range 8).filter fun j=>b.testBit j).length:=by decide +kernel
theorem step1(n:Nat):∀ x,((x / 2) &&& qG 85 n)+(x &&& qG 85 n)=kS f1 n x:=by
 induction n with
 | zero=>intro x;simp[qG,kS]
 | succ n ih =>
  intro x
  rw[CX 85 (by decide),CX 85 (by decide)]
  have e1:x / 2 % 256=x % 256 / 2+128*(x / 256 % 2):=by omega
  have e2:x / 2 / 256=x / 256 / 2:=by omega
  rw[e1,e2,k1 _ (Nat.mod_lt _ (by decide)) _ (Nat.mod_lt _ (by decide))]
  have:=ih (x / 256)
  simp only[kS,f1]
  omega
theorem step2(n:Nat):∀ x,((x / 4) &&& qG 51 n)+(x &&& qG 51 n)=kS f2 n x:=by
 induction n with
 | zero=>intro x;simp[qG,kS]
 | succ n ih =>
  intro x
  rw[CX 51 (by decide),CX 51 (by decide)]
  have e1:x / 4 % 256=x % 256 / 4+64*(x / 256 % 4):=by omega
  have e2:x / 4 / 256=x / 256 / 4:=by omega
  rw[e1,e2,k2 _ (Nat.mod_lt _ (by decide)) _ (Nat.mod_lt _ (by decide))]
  have:=ih (x / 256)
  simp only[kS,f2]
  omega
theorem Zz(f g:Nat→Nat)(hg:∀ b,b<256→g b<256)(n:Nat):∀ x,kS f n (kS g n x)=kS (fun b=>f (g b)) n x:=by
 induction n with
 | zero=>intro x;rfl
 | succ n ih =>
  intro x
  have h:=hg (x % 256) (Nat.mod_lt _ (by decide))
  simp only[kS]
  rw[show(g (x % 256)+256*kS g n (x / 256)) % 256=g (x % 256) by omega,show(g (x % 256)+256*kS g n (x / 256)) / 256=kS g n (x / 256) by omega,ih]
theorem akP(a:Nat):a &&& 15=a % 16:=Nat.and_two_pow_sub_one_eq_mod a 4
theorem acG(h:Nat→Nat)(hh:∀ b,b<256→h b≤68∧h b % 16≤4)(n:Nat)(x:Nat):kS h n x % 16≤4:=by
 cases n with
 | zero=>simp[kS]
 | succ n=>have:=hh (x % 256) (Nat.mod_lt _ (by decide));simp only[kS];omega
theorem step3(h:Nat→Nat)(hh:∀ b,b<256→h b≤68∧h b % 16≤4)(n:Nat):∀ x,(kS h n x / 16+kS h n x) &&& qG 15 n=kS (fun b=>(h b / 16+h b) % 16) n x:=by
 induction n with
 | zero=>intro x;simp[qG,kS]
 | succ n ih =>
  intro x
  have h0:=hh (x % 256) (Nat.mod_lt _ (by decide))
  have hl:=acG h hh n (x / 256)
  have hi:=ih (x / 256)
  rw[CX 15 (by decide)]
  simp only[kS]
  generalize h (x % 256)=a at *
  generalize kS h n (x / 256)=r at *
  rw[akP]
  rw[show((a+256*r) / 16+(a+256*r)) / 256=r / 16+r by omega,hi]
  omega
theorem lK(n:Nat):∀ x,((List.range (8*n)).filter fun j=>x.testBit j).length=(match n with | 0=>0 | m+1=>((List.range 8).filter fun j=>(x % 256).testBit j).length+((List.range (8*m)).filter fun j=>(x / 256).testBit j).length):=by
 intro x
 cases n with
 | zero=>rfl
 | succ m =>
  simp only
  rw[show 8*(m+1)=8+8*m by omega,List.range_add,List.filter_append,List.length_append,List.filter_map,List.length_map]
  congr 1
  ·refine congrArg List.length (List.filter_congr fun j hj=>?_)
   have:=List.mem_range.1 hj
   rw[show(256:Nat)=2 ^ 8 from rfl,Nat.testBit_mod_two_pow];simp[this]
  ·refine congrArg List.length (List.filter_congr fun j hj=>?_)
   simp only[Function.comp]
   rw[show(256:Nat)=2 ^ 8 from rfl,Nat.testBit_div_two_pow,Nat.add_comm]
theorem ZA(x:Nat):(jw x).length=pop8 (x % 256)+(pop8 (x / 256 % 256)+(pop8 (x / 256 / 256 % 256)+(pop8 (x / 256 / 256 / 256 % 256)+(pop8 (x / 256 / 256 / 256 / 256 % 256)+(pop8 (x / 256 / 256 / 256 / 256 / 256 % 256)+(pop8 (x / 256 / 256 / 256 / 256 / 256 / 256 % 256)+pop8 (x / 256 / 256 / 256 / 256 / 256 / 256 / 256 % 256))))))):=by
 have hb:=fun y=>(b3 (y % 256) (Nat.mod_lt y (by decide))).2
 unfold jw
 rw[show List.range 64=List.range (8*8) from rfl,lK 8];simp only
 rw[lK 7];simp only
 rw[lK 6];simp only
 rw[lK 5];simp only
 rw[lK 4];simp only
 rw[lK 3];simp only
 rw[lK 2];simp only
 rw[lK 1 (x / 256 / 256 / 256 / 256 / 256 / 256 / 256)];simp only
 simp only[hb]
 simp
def jk(x:Nat):Nat:=(x / 2 &&& 6148914691236517205)+(x &&& 6148914691236517205)
def mO(x:Nat):Nat:=(x / 4 &&& 3689348814741910323)+(x &&& 3689348814741910323)
def xu(x:Nat):Nat:=(x / 16+x) &&& 1085102592571150095
theorem agn(x:Nat):xu (mO (jk x))=kS pop8 8 x:=by
 unfold jk mO xu
 rw[show 6148914691236517205=qG 85 8 from rfl,show 3689348814741910323=qG 51 8 from rfl,show 1085102592571150095=qG 15 8 from rfl,step1,step2,Zz f2 f1 b1,step3 _ b2]
 rfl
theorem akQ(a b c T2 T3 x y:Nat)(ha:a≤8)(hb:b≤8)(hc:c≤8)(hx:x=a+256*(b+256*T2))(hy:y=b+256*(c+256*T3)):(x+y) / 65536=T2+T3:=by omega
theorem akR(l0 l1 l2 l3 t0 t1 t2 t3:Nat)(h0:l0≤134744072)(h1:l1≤134744072)(h2:l2≤134744072)(h3:l3≤134744072) :
  ((l0+4294967296*t0)+(l1+4294967296*t1)+((l2+4294967296*t2)+(l3+4294967296*t3))) / 4294967296=t0+t1+(t2+t3):=by omega
theorem low4(a b c d T:Nat)(ha:a≤8)(hb:b≤8)(hc:c≤8)(hd:d≤8):∃ l,a+256*(b+256*(c+256*(d+256*T)))=l+4294967296*T∧l≤134744072 :=
 ⟨a+256*b+65536*c+16777216*d,by omega,by omega⟩
theorem agp(C U:Nat)(h:C≤64):(C+256*U) % 128=C:=by omega
theorem am1(c0 c1 c2 c3 c4 c5 c6 c7 c:Nat)(g0:c0≤8)(g1:c1≤8)(g2:c2≤8)(g3:c3≤8)(g4:c4≤8)(g5:c5≤8)(g6:c6≤8)(g7:c7≤8)
  (hc:c=c0+256*(c1+256*(c2+256*(c3+256*(c4+256*(c5+256*(c6+256*(c7+256*0)))))))) :
  c≤578721382704613384∧((c+c / 256)+(c+c / 256) / 65536+((c+c / 256)+(c+c / 256) / 65536) / 4294967296) % 128=c0+(c1+(c2+(c3+(c4+(c5+(c6+c7)))))):=by
 have z:(0:Nat)=0+256*(0+256*(0+256*(0+256*0))):=rfl
 obtain⟨t7,h7⟩:∃ t,t=c7+256*0:=⟨_,rfl⟩
 rw[←h7] at hc
 obtain⟨t6,h6⟩:∃ t,t=c6+256*t7:=⟨_,rfl⟩
 rw[←h6] at hc
 obtain⟨t5,h5⟩:∃ t,t=c5+256*t6:=⟨_,rfl⟩
 rw[←h5] at hc
 obtain⟨t4,h4⟩:∃ t,t=c4+256*t5:=⟨_,rfl⟩
 rw[←h4] at hc
 obtain⟨t3,h3⟩:∃ t,t=c3+256*t4:=⟨_,rfl⟩
 rw[←h3] at hc
 obtain⟨t2,h2⟩:∃ t,t=c2+256*t3:=⟨_,rfl⟩
 rw[←h2] at hc
 obtain⟨t1,h1⟩:∃ t,t=c1+256*t2:=⟨_,rfl⟩
 rw[←h1] at hc
 have k7:t7≤8:=by omega
 have k6:t6≤2056:=by omega
 have k5:t5≤526344:=by omega
 have k4:t4≤134744072:=by omega
 have k3:t3≤34494482440:=by omega
 have k2:t2≤8830587504648:=by omega
 have k1:t1≤2260630401189896:=by omega
 have k0:c≤578721382704613384:=by omega
 have e1:c / 256=t1:=by omega
 have e2:(c+t1) / 65536=t2+t3:=akQ c0 c1 c2 t2 t3 c t1 g0 g1 g2 (by rw[hc,h1]) (by rw[h1,h2])
 obtain⟨l0,a0,b0⟩:=low4 c0 c1 c2 c3 t4 g0 g1 g2 g3
 obtain⟨l1,a1,b1⟩:=low4 c1 c2 c3 c4 t5 g1 g2 g3 g4
 obtain⟨l2,a2,b2⟩:=low4 c2 c3 c4 c5 t6 g2 g3 g4 g5
 obtain⟨l3,a3,b3⟩:=low4 c3 c4 c5 c6 t7 g3 g4 g5 g6
 rw[←h3,←h2,←h1,←hc] at a0
 rw[←h4,←h3,←h2,←h1] at a1
 rw[←h5,←h4,←h3,←h2] at a2
 rw[←h6,←h5,←h4,←h3] at a3
 have e3:(c+t1+(t2+t3)) / 4294967296=t4+t5+(t6+t7):=by
  rw[a0,a1,a2,a3];exact akR l0 l1 l2 l3 t4 t5 t6 t7 b0 b1 b2 b3
 refine⟨k0,?_⟩
 rw[e1,e2,e3]
 clear a0 a1 a2 a3 b0 b1 b2 b3 e1 e2 e3 k0 k1 k2 k3 k4 k5 k6 k7 z
 have:c+t1+(t2+t3)+(t4+t5+(t6+t7))=(c0+(c1+(c2+(c3+(c4+(c5+(c6+c7)))))))+256*(t1+t2+t3+t4+t5+t6+t7):=by omega
 rw[this]
 exact agp _ _ (by omega)
theorem acH(x:Nat):xu (mO (jk x))≤578721382704613384∧((xu (mO (jk x))+xu (mO (jk x)) / 256)+(xu (mO (jk x))+xu (mO (jk x)) / 256) / 65536+((xu (mO (jk x))+xu (mO (jk x)) / 256)+(xu (mO (jk x))+xu (mO (jk x)) / 256) / 65536) / 4294967296) % 128=(jw x).length:=by
 rw[ZA]
 have hb:=fun y=>(b3 (y % 256) (Nat.mod_lt y (by decide))).1
 refine am1 _ _ _ _ _ _ _ _ _ (hb _) (hb _) (hb _) (hb _) (hb _) (hb _) (hb _) (hb _) ?_
 rw[agn]
 simp only[kS]
end
section
open Go.ChangeShapes Go.WideShapes Go.ChangeAt Go.RowKit Go.Deep
section
variable {H:Type} {enc:TypeId×Value→H} {P:Program} {w:World} {base:Nat} {spare:Nat→Bool} {held:Bool} {fuel:Nat} {t e:TypeId} {cs:List Value} {x:DataW H×List MemPlace}
theorem UY{n:Nat}{k:IntKind}(ht:P.underlying t=some (.array n e))(he:P.underlying e=some (.int k))(hc:P.cellsOf e=1)(hct:P.cellsOf t=n)(h:DataW.trod enc P w base spare held fuel t cs=some x) :
  ∃ zs:List Int,zs.length=n∧cs=zs.map (Value.int k)∧∀ z∈zs,(Lit.int k z).wf=true:=by
 obtain⟨xs,m,_,_,hl,hxl,hx⟩:=DataW.trod_array ht h
 rw[hct] at hl
 have key:∀ i,i<n→∃ z:Int,cs[i]?=some (.int k z)∧(Lit.int k z).wf=true:=fun i hi=>by
  have h1:=hx i hi
  rw[hc,Nat.mul_one,List.getElem?_eq_getElem (show i<xs.length by omega)] at h1
  obtain⟨z,h2,_,h3⟩:=DataW.trod_int he h1
  refine⟨z,?_,h3⟩
  have:=congrArg (fun l:List Value=>l[0]?) h2
  simpa using this
 obtain⟨f,hf⟩:=choose_lt key
 refine⟨(List.range n).map f,by simp,?_,fun z hz=>?_⟩
 ·apply List.ext_getElem?
  intro i
  by_cases hi:i<n
  ·rw[(hf i hi).1];simp[hi]
  ·rw[List.getElem?_eq_none (by omega),List.getElem?_eq_none (by simp;omega)]
 ·obtain⟨i,hi,rfl⟩:=List.mem_map.1 hz
  exact(hf i (by simpa using hi)).2
theorem wf_u8{z:Int}(h:(Lit.int .u8 z).wf=true):∃ n:Nat,z=(n:Int)∧n<256:=by
 have:0≤z∧z≤255:=by simpa [Lit.wf,IntKind.min,IntKind.max,IntKind.bits,IntKind.signed] using h
 exact⟨z.toNat,by omega,by omega⟩
theorem ZB(ht:P.underlying t=some (.array 256 e))(he:P.underlying e=some (.int .u8))(hc:P.cellsOf e=1)(hct:P.cellsOf t=256)(h:DataW.trod enc P w base spare held fuel t cs=some x) :
  ∃ f:Nat→Nat,cs=(aP f).toList∧∀ b,f b<256:=by
 obtain⟨zs,hl,rfl,hw⟩:=UY ht he hc hct h
 have hb:∀ i,0≤zs.getD i 0∧zs.getD i 0<256:=fun i=>by
  by_cases hi:i<zs.length
  ·obtain⟨n,hn,hlt⟩:=wf_u8 (hw zs[i] (List.getElem_mem hi))
   simp only[List.getD,List.getElem?_eq_getElem hi,Option.getD_some,hn];omega
  ·simp[List.getD,List.getElem?_eq_none (show zs.length≤i by omega)]
 refine⟨fun i=>(zs.getD i 0).toNat,?_,fun b=>by have:=hb b;show(zs.getD b 0).toNat<256;omega⟩
 apply List.ext_getElem?
 intro i
 by_cases hi:i<256
 ·have:=dX (fun i=>(zs.getD i 0).toNat) i hi
  rw[←Array.getElem?_toList] at this
  rw[this]
  have h1:=hb i
  rw[List.getElem?_map]
  simp only[List.getD] at h1 ⊢
  rw[List.getElem?_eq_getElem (show i<zs.length by omega)] at h1 ⊢
  simp at h1 ⊢
  omega
 ·have h1:(aP fun i=>(zs.getD i 0).toNat).toList[i]?=none:=List.getElem?_eq_none (by rw[Array.length_toList,aT];omega)
  rw[h1,List.getElem?_eq_none (by simp;omega)]
theorem XC{ts:TypeId}(hs:P.underlying ts=some (.slice e))(he:P.underlying e=some (.int .u8))(hc:P.cellsOf e=1)
  {a:Option Addr} {len cap:Nat} (h:DataW.trod enc P w base spare held fuel ts [.slice a len cap]=some x):∃ l:List Nat,len=l.length∧ak w (.slice a l.length cap) 1 iG l∧∀ x∈l,x<256:=by
 rcases open_slice1 hs hc h with⟨h0,_⟩ | ⟨a',len',cap',m,n,V,D,Pl,h0,_,hle,hm,hmm,_,hx⟩
 ·simp at h0
  obtain⟨rfl,rfl,rfl⟩:=h0
  exact⟨[],rfl,⟨none,0,0,0,rfl,Nat.le_refl _,by simp[maxLen],.inr ⟨rfl,fun _=>rfl⟩,fun i hi=>by simp at hi⟩,by simp⟩
 ·simp at h0
  obtain⟨rfl,rfl,rfl⟩:=h0
  have hlm:len≤m:=by rw[hmm];split <;> omega
  have key:∀ i,i<len→∃ y:Nat,w.cell? (a'.add i)=some (.int .u8 y)∧y<256:=fun i hi=>by
   obtain⟨h1,h2⟩:=hx i (by omega)
   obtain⟨z,h3,_,h4⟩:=DataW.trod_int he h2
   obtain⟨y,rfl,hy⟩:=wf_u8 h4
   exact⟨y,by rw[h1];simpa using h3,hy⟩
  obtain⟨f,hf⟩:=choose_lt key
  have hspot:0<len→a'.spot=none:=fun h0=>by
   have:=World.cell?_spot (hf 0 h0).1
   simpa [Addr.add] using this
  obtain⟨b,o,spot⟩:=a'
  refine⟨(List.range len).map f,by simp,⟨some ⟨b,o,spot⟩,b,o,cap,by simp,by simpa using hle,hm,?_,fun i hi j u hu=>?_⟩,fun y hy=>?_⟩
  ·by_cases h0:len=0
   ·exact .inr ⟨by simp[h0],fun h=>by cases h⟩
   ·have h1:=hspot (by omega)
    simp only at h1
    exact .inl (by rw[h1])
  ·have hi':i<len:=by simpa using hi
   have:=(hf i hi').1
   have hs2:spot=none:=hspot (by omega)
   subst hs2
   rw[Addr.add_mid] at this
   have hj:j=0:=by have:=(List.getElem?_eq_some_iff.1 hu).1;simpa using this
   subst hj
   have e:iG ((List.range len).map f)[i]=iG (f i):=by simp
   rw[e] at hu
   simp at hu
   rw[←hu,Nat.mul_one,Nat.add_zero];exact this
  ·obtain⟨i,hi,rfl⟩:=List.mem_map.1 hy
   exact(hf i (by simpa using hi)).2
end
end
section
open Go.ChangeShapes Go.WideShapes Go.ChangeAt Go.RowKit Go.Deep
inductive Tr where
 | mk (k:Int) (s:aA) (kids:List Tr) (lo hi:Int)
inductive Vt where
 | mk (k:Int) (s:aA) (a:Option Addr) (cap:Nat) (kids:List Vt) (lo hi:Int)
def Vt.tr:Vt→Tr
 | .mk k s _ _ kids lo hi=>.mk k s (kids.map Vt.tr) lo hi
abbrev aC(k:Int)(s:aA)(a:Option Addr)(n cap:Nat)(lo hi:Int):List Value :=
 [.int .i64 k,.int .u64 (word s 0:Nat),.int .u64 (word s 1:Nat),.int .u64 (word s 2:Nat),.int .u64 (word s 3:Nat),.slice a n cap,.int .i64 lo,.int .i64 hi]
def Vt.cells:Vt→List Value
 | .mk k s a cap kids lo hi=>aC k s a kids.length cap lo hi
def Tr.kids:Tr→List Tr
 | .mk _ _ kids _ _=>kids
theorem Vt.bK(V:Vt):V.cells.length=8:=by cases V;rfl
theorem Vt.cells_one(V:Vt):∀ u∈V.cells,u.oneCell'=true:=by
 obtain⟨k,s,a,cap,kids,lo,hi⟩:=V
 intro u hu
 simp[Vt.cells] at hu
 rcases hu with rfl | rfl | rfl | rfl | rfl | rfl | rfl | rfl <;> rfl
abbrev I64(z:Int):Prop:=-9223372036854775808≤z∧z≤9223372036854775807
inductive Lies (w:World):Vt→Prop
 | mk (k:Int) (s:aA) (a:Option Addr) (cap:Nat) (kids:List Vt) (lo hi:Int) (hk:I64 k) (hlo:I64 lo) (hhi:I64 hi)
   (hs:ak w (.slice a kids.length cap) 8 Vt.cells kids) (hkids:∀ i (h:i<kids.length),Lies w kids[i]):Lies w (.mk k s a cap kids lo hi)
theorem Lies.kept{w w':World}{V:Vt}(h:Lies w V)(hb:Below w.heap.size w w'):Lies w' V:=by
 induction h with
 | mk k s a cap kids lo hi hk hlo hhi hs _ ih=>exact .mk k s a cap kids lo hi hk hlo hhi (hs.kept hb) ih
theorem Lies.open{w:World}{k:Int}{s:aA}{a:Option Addr}{cap:Nat}{kids:List Vt}{lo hi:Int}(h:Lies w (.mk k s a cap kids lo hi)) :
  I64 k∧I64 lo∧I64 hi∧ak w (.slice a kids.length cap) 8 Vt.cells kids∧∀ i (h:i<kids.length),Lies w kids[i]:=by
 cases h with
 | mk _ _ _ _ _ _ _ hk hlo hhi hs hkids=>exact⟨hk,hlo,hhi,hs,hkids⟩
theorem Lies.drew{w:World}{V:Vt}(h:Lies w V):Lies w.drew V:=by
 induction h with
 | mk k s a cap kids lo hi hk hlo hhi hs _ ih=>exact .mk k s a cap kids lo hi hk hlo hhi hs ih
theorem Vt.ind{M:Vt→Prop}(h:∀ k s a cap kids lo hi,(∀ i (h:i<kids.length),M kids[i])→M (.mk k s a cap kids lo hi)):∀ V,M V
 | .mk k s a cap kids lo hi=>h k s a cap kids lo hi (fun i hi=>Vt.ind h kids[i])
termination_by V=>SizeOf.sizeOf V
decreasing_by
 have:=List.sizeOf_lt_of_mem (List.getElem_mem hi)
 simp only[Vt.mk.sizeOf_spec]
 omega
theorem Tr.ind{M:Tr→Prop}(h:∀ k s kids lo hi,(∀ i (h:i<kids.length),M kids[i])→M (.mk k s kids lo hi)):∀ V,M V
 | .mk k s kids lo hi=>h k s kids lo hi (fun i hi=>Tr.ind h kids[i])
termination_by V=>SizeOf.sizeOf V
decreasing_by
 have:=List.sizeOf_lt_of_mem (List.getElem_mem hi)
 simp only[Tr.mk.sizeOf_spec]
 omega
theorem Vt.jI(k:Int)(s:aA)(a:Option Addr)(cap:Nat)(kids:List Vt)(lo hi:Int):(Vt.mk k s a cap kids lo hi).tr=.mk k s (kids.map Vt.tr) lo hi:=by rw[Vt.tr]
mutual
def eqT:Tr→Tr→Bool
 | .mk k s l lo hi,.mk k' s' l' lo' hi'=>decide (k=k')&&decide (s=s')&&decide (lo=lo')&&decide (hi=hi')&&ahl l l'
def ahl:List Tr→List Tr→Bool
 | [],[]=>true
 | a::l,b::m=>eqT a b&&ahl l m
 | [],_::_=>false
 | _::_,[]=>false
end
theorem qX{w:World}{b o:Nat}{k:Int}{s:aA}{a:Option Addr}{n cap:Nat}{lo hi:Int}(h:∀ j u,(aC k s a n cap lo hi)[j]?=some u→w.cell? ⟨b,o+j,none⟩=some u) :
  w.cell? ⟨b,o,none⟩=some (.int .i64 k)∧w.cell? ⟨b,o+1,none⟩=some (.int .u64 (word s 0:Nat))∧w.cell? ⟨b,o+2,none⟩=some (.int .u64 (word s 1:Nat)) ∧
  w.cell? ⟨b,o+3,none⟩=some (.int .u64 (word s 2:Nat))∧w.cell? ⟨b,o+4,none⟩=some (.int .u64 (word s 3:Nat))∧w.cell? ⟨b,o+5,none⟩=some (.slice a n cap) ∧
  w.cell? ⟨b,o+6,none⟩=some (.int .i64 lo)∧w.cell? ⟨b,o+7,none⟩=some (.int .i64 hi) :=
 ⟨h 0 _ rfl,h 1 _ rfl,h 2 _ rfl,h 3 _ rfl,h 4 _ rfl,h 5 _ rfl,h 6 _ rfl,h 7 _ rfl⟩
theorem Box.node{w:World}{b E:Nat}{k:Int}{s:aA}{a:Option Addr}{n cap:Nat}{lo hi:Int}(h:Box w b (aC k s a n cap lo hi).toArray E) :
  w.cell? ⟨b,0,none⟩=some (.int .i64 k)∧w.cell? ⟨b,1,none⟩=some (.int .u64 (word s 0:Nat))∧w.cell? ⟨b,2,none⟩=some (.int .u64 (word s 1:Nat)) ∧
  w.cell? ⟨b,3,none⟩=some (.int .u64 (word s 2:Nat))∧w.cell? ⟨b,4,none⟩=some (.int .u64 (word s 3:Nat))∧w.cell? ⟨b,5,none⟩=some (.slice a n cap) ∧
  w.cell? ⟨b,6,none⟩=some (.int .i64 lo)∧w.cell? ⟨b,7,none⟩=some (.int .i64 hi) :=
 ⟨h.cell 0,h.cell 1,h.cell 2,h.cell 3,h.cell 4,h.cell 5,h.cell 6,h.cell 7⟩
theorem ak.kids{w:World}{a:Option Addr}{cap:Nat}{kids:List Vt}(h:ak w (.slice a kids.length cap) 8 Vt.cells kids) :
  ∃ b o,kids.length≤cap∧cap≤9223372036854775807∧(∀ i,i<kids.length→a=some ⟨b,o,none⟩)∧(0<kids.length→b<w.heap.size) ∧
   ∀ i (h:i<kids.length) (w':World),Below w.heap.size w w'→∀ j u,(kids[i].cells)[j]?=some u→w'.cell? ⟨b,o+i*8+j,none⟩=some u:=by
 obtain⟨b,o,_,h2,h3,h4,h5⟩:=h.open
 refine⟨b,o,h2,h3,h4,fun h0=>?_,fun i hi w' hB j u hu=>?_⟩
 ·have:0<(kids[0].cells).length:=by rw[Vt.bK];omega
  exact World.block_lt_of_cell? w _ (h5 0 h0 0 _ (List.getElem?_eq_getElem this))
 ·have:=h5 i hi j u hu
  rw[hB.cell (World.block_lt_of_cell? w _ this)];exact this
structure aoL(P:Program)(tN tK tS tU tL tI:TypeId)(fs:Array Field):Prop where
 node:P.underlying tN=some (.struct fs)
 acI:fs.map (fun f=>(f.type,f.offset))=#[(tK,0),(tS,1),(tL,5),(tI,6),(tI,7)]
 kind:P.underlying tK=some (.int .i64)
 set:P.underlying tS=some (.array 4 tU)
 word:P.underlying tU=some (.int .u64)
 list:P.underlying tL=some (.slice tN)
 int:P.underlying tI=some (.int .i64)
 cN:P.cellsOf tN=8
 cK:P.cellsOf tK=1
 cS:P.cellsOf tS=4
 cU:P.cellsOf tU=1
 cL:P.cellsOf tL=1
 cI:P.cellsOf tI=1
section
variable {H:Type} {enc:TypeId×Value→H} {P:Program} {w:World} {base:Nat} {spare:Nat→Bool} {held:Bool} {tN tK tS tU tL tI:TypeId} {fs:Array Field}
end
end
end Go.Proofs.YtbemonecmmnlcaaGreatDoor
