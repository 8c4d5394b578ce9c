/- The texts of S2, in few letters (mini.py). -/
import Derived.Test.YtbemonecmmnlcaaGreatDoorM1
import Derived.Laws.AppendOwnNone
import Derived.Lib.TrailingZeros
set_option linter.unusedVariables false
set_option linter.unusedSimpArgs false
namespace Go.Proofs.YtbemonecmmnlcaaGreatDoor
section
open Go.RowKit
theorem wo(z:Array Value)(n k:Nat)(h:k<n)(hz:0<z.size):(madeCells z n)[k]?=z[k % z.size]?:=by
 have hm:k % z.size<z.size:=Nat.mod_lt _ hz
 simp[madeCells,h,getElem!_pos,hm]
theorem Own.made{α:Type}{enc:α→List Value}{size:Nat}(he:eH enc size)(w:World)(base E:Nat)(x0:α)(z:Array Value)(hz:z.toList=enc x0)(hpos:0<size)(n:Nat)(hn:n≤maxLen)(hb:base≤w.heap.size) :
  Own (w.alloc (.cells (madeCells z (n*size)) E)) base E size enc (.slice (some ⟨w.heap.size,0,none⟩) n n) (List.replicate n x0):=by
 have hsz:z.size=size:=by rw[←Array.length_toList,hz,he.len]
 refine⟨_,n,by rw[List.length_replicate],by rw[List.length_replicate];exact Nat.le_refl _,hn,.inr ⟨w.heap.size,_,rfl,hb,Box.new _ _ _,size_madeCells _ _,fun i hi j hj=>?_⟩⟩
 rw[List.length_replicate] at hi
 have hk:i*size+j<n*size:=by
  have:(i+1)*size≤n*size:=Nat.mul_le_mul_right _ hi
  rw[Nat.succ_mul] at this;omega
 rw[wo _ _ _ hk (by omega),hsz,List.getElem_replicate,←hz,Array.getElem?_toList]
 congr 1
 rw[Nat.add_comm,Nat.add_mul_mod_self_right,Nat.mod_eq_of_lt hj]
theorem oJ{α:Type}{enc:α→List Value}{size:Nat}{P:Program}{ops:Array Oper}{rest:List Oper}{o:Oper}{a:Act}{w:World}{Q:Exit→Act→World→Prop}(hgd:o.guard=none)(t:TypeId)(x y:Operand)(ho:o.op=.makeSlice t x y)
  {E:TypeId} {z:Value} {bytes:Nat} (hE:dQ P t E z size bytes) (he:eH enc size) (x0:α) (hz:z.cells.toList=enc x0) (n:Nat) (hx:a.eval x=.int .i64 n) (hy:a.eval y=.int .i64 n) (hbytes:bytes*n≤281474976710656) (h63:n≤maxLen) (base:Nat) (hb:base≤w.heap.size)
  (h:∀ w1,Own w1 base E size enc (.slice (some ⟨w.heap.size,0,none⟩) n n) (List.replicate n x0)→w1=w.alloc (.cells (madeCells z.cells (n*size)) E)→wpList P ops Q rest (a.put o.dst (.slice (some ⟨w.heap.size,0,none⟩) n n)) w1):wpList P ops Q (o::rest) a w:=by
 obtain⟨i,hi,hiz,his,hib⟩:=hE.info
 subst hib
 subst his
 refine wpList_plain hgd fun K hK=>?_
 have h63':(n:Int)≤9223372036854775807:=by have:=h63;simp[maxLen] at this;omega
 have hb':(i.bytes:Int)*(n:Int)≤281474976710656:=by
  have:((i.bytes*n:Nat):Int)≤281474976710656:=by omega
  rwa[Int.natCast_mul] at this
 have hr:=run_make (P:=P) w t E i z hE.slice hi hiz .i64 .i64 n n (Int.natCast_nonneg _) (Int.le_refl _) hb' h63'
 simp only[Int.toNat_natCast] at hr
 unfold Oper.wp execOp
 simp only[ho,hx,hy,Sem.run_bind,Sem.run_pure,Result.andThen_ok,hr,Oper.upon]
 exact hK _ _ (h _ (Own.made he w base E x0 z.cells hz hE.pos n h63 hb) rfl)
end
section
open Go.RowKit
theorem CQ{P:Program}(d:Nat)(e:TypeId)(q:IntKind)(he:P.underlying e=some (.int q))(xs ys:List Int)(w:World):∀ (l:List Nat),(∀ i∈l,i<xs.length∧i<ys.length) →
  (Op.eqItems (d+1) e 1 (xs.map (Value.int q)).toArray (ys.map (Value.int q)).toArray l).run P w=.ok (l.all fun i=>xs.getD i 0==ys.getD i 0) w
 | [],_=>by simp[Op.eqItems]
 | i::l,h=>by
  obtain⟨h1,h2⟩:=h i (by simp)
  have ih:=CQ d e q he xs ys w l (fun j hj=>h j (by simp[hj]))
  have px:(part e (xs.map (Value.int q)).toArray (i*1)).run P w=.ok (.int q (xs.getD i 0)) w:=by
   simp[part,isAgg,run_underlying he,List.getD,List.getElem?_eq_getElem h1]
  have py:(part e (ys.map (Value.int q)).toArray (i*1)).run P w=.ok (.int q (ys.getD i 0)) w:=by
   simp[part,isAgg,run_underlying he,List.getD,List.getElem?_eq_getElem h2]
  have pe:=run_equalIn_int (P:=P) w d e q q (xs.getD i 0) (ys.getD i 0) he
  simp only[Op.eqItems,Sem.run_bind,px,py,pe,Result.andThen_ok,List.all_cons]
  cases hb:(xs.getD i 0==ys.getD i 0)
  ·simp
  ·simpa using ih
theorem Qv:∀ (xs ys:List Int),xs.length=ys.length→((List.range xs.length).all fun i=>xs.getD i 0==ys.getD i 0)=decide (xs=ys):=by
 intro xs ys h
 rw[Bool.eq_iff_iff]
 simp only[List.all_eq_true,List.mem_range,beq_iff_eq,decide_eq_true_eq]
 constructor
 ·intro hh
  apply List.ext_getElem h
  intro i h1 h2
  have:=hh i h1
  simpa [List.getD,List.getElem?_eq_getElem h1,List.getElem?_eq_getElem h2] using this
 ·rintro rfl i _;rfl
theorem mW{P:Program}(d:Nat){t e:TypeId}{n:Nat}{i:TypeInfo}{q:IntKind}(hu:P.underlying t=some (.array n e))(he:P.underlying e=some (.int q))(hi:P.info? e=some i)(hc:P.cellsOf e=1)
  (xs ys:List Int) (hx:xs.length=n) (hy:ys.length=n) (w:World) :
  (Op.equalIn (d+2) t (.agg (xs.map (Value.int q)).toArray) (.agg (ys.map (Value.int q)).toArray)).run P w=.ok (decide (xs=ys)) w:=by
 rw[run_equalIn_array (w:=w) (d+1) _ _ hu hi,hc,CQ d e q he xs ys w _ (fun i hi=>by simp at hi;omega),←hx,Qv xs ys (hx.trans hy.symm)]
def pos{κ:Type}[DecidableEq κ](k:κ):List κ→Option Nat
 | []=>none
 | a::r=>if k=a then some 0 else (pos k r).map (·+1)
def look{κ:Type}[DecidableEq κ](k:κ):List (κ×Value)→Option Value
 | []=>none
 | p::r=>if k=p.1 then some p.2 else look k r
def kN{κ:Type}[DecidableEq κ](k:κ)(v:Value):List (κ×Value)→List (κ×Value)
 | []=>[(k,v)]
 | p::r=>if k=p.1 then (k,v)::r else p::kN k v r
structure pV{κ:Type}[DecidableEq κ](P:Program)(kt:TypeId)(enc:κ→Value):Prop where
 check:∀ (k:κ) (e:Bool) (w:World),(Instr.checkKey e 10000 kt (enc k)).run P w=.ok () w
 find:∀ (k:κ) (ks:List κ) (es:List MapEntry) (w:World),es.map (·.key)=ks.map enc →
  (Instr.findKey kt (enc k) es).run P w=.ok ((pos k ks).bind fun i=>(es[i]?).map fun e=>(i,e.val)) w
 bits:∀ k:κ,Instr.sameBits 10000 (enc k) (enc k)=true
def aG{κ:Type}(w:World)(b:Nat)(enc:κ→Value)(kvs:List (κ×Value)):Prop :=
 ∃ es clock,w.heap[b]?=some (.map es clock)∧es.toList.map (fun e=>(e.key,e.val))=kvs.map (fun p=>(enc p.1,p.2))
section
variable {κ:Type} {w:World} {b:Nat} {enc:κ→Value} {kvs:List (κ×Value)}
theorem aG.lt(h:aG w b enc kvs):b<w.heap.size:=by obtain⟨es,c,hb,_⟩:=h;exact(Array.getElem?_eq_some_iff.1 hb).1
theorem aG.same{w':World}(h:aG w b enc kvs)(e:w'.heap[b]?=w.heap[b]?):aG w' b enc kvs:=by
 obtain⟨es,c,hb,hk⟩:=h;exact⟨es,c,e.trans hb,hk⟩
theorem aG.other(h:aG w b enc kvs)(a:Addr)(v:Value)(hne:b≠a.block):aG (w.setCell a v) b enc kvs:=h.same (heap_setCell_other w a b v hne)
theorem aG.alloc(h:aG w b enc kvs)(o:Obj):aG (w.alloc o) b enc kvs:=h.same (Below.heap_alloc w o b h.lt)
theorem aG.below{w':World}{B:Nat}(h:aG w b enc kvs)(hb:Below B w w')(hlt:b<B):aG w' b enc kvs:=h.same (hb.block b hlt)
theorem aG.kept{w':World}(h:aG w b enc kvs)(hb:Below w.heap.size w w'):aG w' b enc kvs:=h.below hb h.lt
theorem aG.setRow(h:aG w b enc kvs)(g:Nat)(c:Array Value)(hne:b≠g):aG (w.setRow g c) b enc kvs:=h.same (Go.setRow_other w g b c hne)
theorem aG.new(w:World)(enc:κ→Value):aG (w.alloc (.map #[] 0)) w.heap.size enc []:=⟨#[],0,heap_alloc_new w _,rfl⟩
theorem aG.new'(h:b=w.heap.size)(enc:κ→Value):aG (w.alloc (.map #[] 0)) b enc []:=h▸aG.new w enc
variable [DecidableEq κ]
theorem AQ(k:κ):∀ (kvs:List (κ×Value)) (es:List MapEntry),es.map (fun e=>(e.key,e.val))=kvs.map (fun p=>(enc p.1,p.2)) →
  ((pos k (kvs.map (·.1))).bind fun i=>(es[i]?).map fun e=>(i,e.val)).map (·.2)=look k kvs
 | [],es,h=>by simp[pos,look]
 | p::r,[],h=>by simp at h
 | p::r,e::es,h=>by
  simp only[List.map_cons,List.cons.injEq,Prod.mk.injEq] at h
  simp only[List.map_cons,pos,look]
  by_cases hk:k=p.1
  ·simp[hk,h.1.2]
  ·simp only[hk,if_false]
   rw[←AQ k r es h.2]
   cases pos k (r.map (·.1)) <;> simp[Option.map_map,Function.comp_def]
omit [DecidableEq κ] in
theorem JI{es:List MapEntry}(h:es.map (fun e=>(e.key,e.val))=kvs.map (fun p=>(enc p.1,p.2))):es.map (·.key)=(kvs.map (·.1)).map enc:=by
 have:=congrArg (List.map Prod.fst) h
 simpa [List.map_map,Function.comp_def] using this
theorem aG.oK{P:Program}{t kt e:TypeId}(h:aG w b enc kvs)(K:pV P kt enc)(ht:P.underlying t=some (.map kt e)){z:Value}(hz:(zeroValue e).run P w=.ok z w)(k:κ) :
  (Instr.lookup t (.map (some b)) (enc k) true).run P w=.ok (.tuple #[(look k kvs).getD z,.bool (look k kvs).isSome]) w:=by
 obtain⟨es,c,hb,hk⟩:=h
 have hf:=K.find k (kvs.map (·.1)) es.toList w (JI hk)
 have hl:=AQ (enc:=enc) k kvs es.toList hk
 generalize ((pos k (kvs.map (·.1))).bind fun i=>(es.toList[i]?).map fun e=>(i,e.val))=o at hf hl
 rw[←hl]
 cases o with
 | none=>simp[Instr.lookup,run_underlying ht,MapKept.run_getObj_map hb,K.check,hf,hz,Result.andThen]
 | some x=>simp[Instr.lookup,run_underlying ht,MapKept.run_getObj_map hb,K.check,hf,Result.andThen]
theorem jX{P:Program}{t kt e:TypeId}(h:aG w b enc kvs)(K:pV P kt enc)(ht:P.underlying t=some (.map kt e)){z:Value}(hz:(zeroValue e).run P w=.ok z w)(k:κ) :
  (Instr.lookup t (.map (some b)) (enc k) false).run P w=.ok ((look k kvs).getD z) w:=by
 obtain⟨es,c,hb,hk⟩:=h
 have hf:=K.find k (kvs.map (·.1)) es.toList w (JI hk)
 have hl:=AQ (enc:=enc) k kvs es.toList hk
 generalize ((pos k (kvs.map (·.1))).bind fun i=>(es.toList[i]?).map fun e=>(i,e.val))=o at hf hl
 rw[←hl]
 cases o with
 | none=>simp[Instr.lookup,run_underlying ht,MapKept.run_getObj_map hb,K.check,hf,hz,Result.andThen]
 | some x=>simp[Instr.lookup,run_underlying ht,MapKept.run_getObj_map hb,K.check,hf,Result.andThen]
theorem jK(k:κ)(v:Value):∀ (kvs:List (κ×Value)),look k kvs=none→kN k v kvs=kvs++[(k,v)]
 | [],_=>rfl
 | p::r,h=>by
  simp only[look] at h
  by_cases hk:k=p.1
  ·simp[hk] at h
  ·simp only[hk,if_false] at h
   simp[kN,hk,jK k v r h]
theorem AU(k a:κ)(v:Value):∀ (kvs:List (κ×Value)),look a (kN k v kvs)=if a=k then some v else look a kvs
 | []=>by simp[kN,look]
 | p::r=>by
  simp only[kN]
  by_cases hk:k=p.1
  ·simp only[hk,if_true,look]
   by_cases ha:a=p.1 <;> simp[ha]
  ·simp only[hk,if_false,look]
   by_cases ha:a=p.1
   ·have:¬ a=k:=fun e=>hk (e▸ha)
    simp[ha]
    intro e;exact absurd e.symm hk
   ·simp only[ha,if_false];exact AU k a v r
theorem aG.pW{P:Program}{t kt e:TypeId}(h:aG w b enc kvs)(K:pV P kt enc)(ht:P.underlying t=some (.map kt e))(k:κ)(v:Value) :
  ∃ w',(Instr.mapUpdate t (.map (some b)) (enc k) v).run P w=.ok () w'∧aG w' b enc (kN k v kvs)∧(∀ i,i≠b→w'.heap[i]?=w.heap[i]?)∧w'.heap.size=w.heap.size∧(∀ B,B≤b→Below B w w'):=by
 obtain⟨es,c,hb,hk⟩:=h
 have hf:=K.find k (kvs.map (·.1)) es.toList w (JI hk)
 have fin:∀ es' c',(Instr.mapUpdate t (.map (some b)) (enc k) v).run P w=.ok () (ChangeMaps.setBlock w b (.map es' c'))→es'.toList.map (fun e=>(e.key,e.val))=(kN k v kvs).map (fun p=>(enc p.1,p.2)) →
   ∃ w',(Instr.mapUpdate t (.map (some b)) (enc k) v).run P w=.ok () w'∧aG w' b enc (kN k v kvs)∧(∀ i,i≠b→w'.heap[i]?=w.heap[i]?)∧w'.heap.size=w.heap.size∧(∀ B,B≤b→Below B w w'):=fun es' c' hrun he =>
  ⟨_,hrun,⟨es',c',ChangeMaps.heap_setBlock_same hb _,he⟩,fun i hi=>ChangeMaps.heap_setBlock_other hb _ hi,by simp[ChangeMaps.setBlock],
   fun B hB=>⟨rfl,rfl,rfl,by simp[ChangeMaps.setBlock],fun i hi=>ChangeMaps.heap_setBlock_other hb _ (by omega)⟩⟩
 cases ho:pos k (kvs.map (·.1)) with
 | none =>
  rw[ho] at hf
  refine fin (es.push { key:=enc k,val:=v,born:=c }) (c+1) ?_ ?_
  ·simp only[Option.bind_none] at hf
   simp[Instr.mapUpdate,run_underlying ht,MapKept.run_getObj_map hb,K.check,hf,MapKept.run_setObj_map _ hb,Result.andThen,ChangeMaps.setBlock]
  ·have hn:look k kvs=none:=by rw[←AQ (enc:=enc) k kvs es.toList hk,ho];rfl
   rw[jK k v kvs hn];simp[hk]
 | some i =>
  rw[ho] at hf
  have hpos:∀ (kvs:List (κ×Value)) (es:List MapEntry) (i:Nat),es.map (fun e=>(e.key,e.val))=kvs.map (fun p=>(enc p.1,p.2))→pos k (kvs.map (·.1))=some i →
    (∃ e0,es[i]?=some e0∧e0.key=enc k)∧(es.modify i fun e=>{ e with key:=enc k,val:=v }).map (fun e=>(e.key,e.val))=(kN k v kvs).map (fun p=>(enc p.1,p.2)):=by
   intro kvs
   induction kvs with
   | nil=>intro es i _ h;simp[pos] at h
   | cons p r ih =>
    intro es i he h
    cases es with
    | nil=>simp at he
    | cons e0 es =>
     simp only[List.map_cons,List.cons.injEq,Prod.mk.injEq] at he
     simp only[List.map_cons,pos] at h
     by_cases hk:k=p.1
     ·simp only[hk,if_true,Option.some.injEq] at h
      subst h
      exact⟨⟨e0,by simp,by rw[he.1.1,hk]⟩,by simp[kN,hk,he.2]⟩
     ·simp only[hk,if_false,Option.map_eq_some_iff] at h
      obtain⟨j,hj,rfl⟩:=h
      obtain⟨⟨e1,h1,h2⟩,h3⟩:=ih es j he.2 hj
      exact⟨⟨e1,by simpa using h1,h2⟩,by simp[kN,hk,he.1,h3]⟩
  obtain⟨⟨e0,h0,h1⟩,h2⟩:=hpos kvs es.toList i hk ho
  refine fin (es.modify i fun e=>{ e with key:=enc k,val:=v }) c ?_ ?_
  ·have h0':es[i]?=some e0:=by simpa using h0
   simp only[Option.bind_some,h0,Option.map_some] at hf
   simp[Instr.mapUpdate,run_underlying ht,MapKept.run_getObj_map hb,K.check,hf,h0',h1,Instr.keyThatStays,K.bits,MapKept.run_setObj_map _ hb,Result.andThen,ChangeMaps.setBlock]
  ·rw[Array.toList_modify];exact h2
omit [DecidableEq κ] in
theorem aG.xg{P:Program}{t kt e:TypeId}(h:aG w b enc kvs)(ht:P.underlying t=some (.map kt e))(ty:TypeId)(n:Nat)(hn:kvs.length=n) :
  (Builtin.len_ #[t] ty #[.map (some b)]).run P w=.ok (.int .i64 (n:Nat)) w:=by
 obtain⟨es,c,hb,hk⟩:=h
 have hl:es.size=n:=by rw[←hn];simpa using congrArg List.length hk
 simp[Builtin.len_,run_underlying ht,MapKept.run_getObj_map hb,Result.andThen,goInt,hl]
omit [DecidableEq κ] in
theorem aG.size(h:aG w b enc kvs):∃ es clock,w.heap[b]?=some (.map es clock)∧es.size=kvs.length:=by
 obtain⟨es,c,hb,hk⟩:=h
 exact⟨es,c,hb,by simpa using congrArg List.length hk⟩
end
theorem Ho{κ:Type}[DecidableEq κ](enc:κ→Value)(kd:TypeDesc)(hs:∀ a b:κ,Instr.sameNow kd (enc a) (enc b)=some (decide (a=b)))(k:κ):∀ (ks:List κ) (es:List MapEntry) (i:Nat),es.map (·.key)=ks.map enc →
  Instr.findNow kd (enc k) es i=some ((pos k ks).bind fun j=>(es[j]?).map fun e=>(i+j,e.val))
 | [],es,i,h=>by
            obtain rfl:es=[]:=by simpa using h
            simp[Instr.findNow,pos]
 | a::ks,[],i,h=>by simp at h
 | a::ks,e::es,i,h=>by
  simp only[List.map_cons,List.cons.injEq] at h
  simp only[Instr.findNow,h.1,hs,pos]
  by_cases hk:k=a
  ·simp[hk]
  ·simp only[hk,decide_false,if_false]
   rw[Ho enc kd hs k ks es (i+1) h.2]
   cases pos k ks <;> simp[Nat.add_assoc,Nat.add_comm 1]
theorem Cc{κ:Type}[DecidableEq κ]{P:Program}{kt:TypeId}(enc:κ→Value)(hs:∀ (a b:κ) (w:World),(Op.equal kt (enc a) (enc b)).run P w=.ok (decide (a=b)) w)(k:κ)(w:World):∀ (ks:List κ) (es:List MapEntry) (i:Nat),es.map (·.key)=ks.map enc →
  (Instr.findAsking kt (enc k) es i).run P w=.ok ((pos k ks).bind fun j=>(es[j]?).map fun e=>(i+j,e.val)) w
 | [],es,i,h=>by
            obtain rfl:es=[]:=by simpa using h
            simp[Instr.findAsking,pos]
 | a::ks,[],i,h=>by simp at h
 | a::ks,e::es,i,h=>by
  simp only[List.map_cons,List.cons.injEq] at h
  simp only[Instr.findAsking,Sem.run_bind,h.1,hs,Result.andThen_ok,pos]
  by_cases hk:k=a
  ·simp[hk]
  ·simp only[hk,decide_false,if_false]
   have:=Cc enc hs k w ks es (i+1) h.2
   simp only[Bool.false_eq_true,if_false]
   rw[this]
   cases pos k ks <;> simp[Nat.add_assoc,Nat.add_comm 1]
theorem CS{κ:Type}[DecidableEq κ]{P:Program}{kt:TypeId}{kd:TypeDesc}(enc:κ→Value)(ht:P.underlying kt=some kd)(hs:∀ a b:κ,Instr.sameNow kd (enc a) (enc b)=some (decide (a=b)))
  (hc:∀ (k:κ) (e:Bool) (w:World),(Instr.checkKey e 10000 kt (enc k)).run P w=.ok () w) (hb:∀ k:κ,Instr.sameBits 10000 (enc k) (enc k)=true):pV P kt enc :=
 ⟨hc,fun k ks es w he=>by
  simp only[Instr.findKey,Sem.run_bind,run_underlying ht,Result.andThen_ok,Ho enc kd hs k ks es 0 he,Nat.zero_add]
  rfl,hb⟩
theorem KF{P:Program}{kt:TypeId}{q:IntKind}(ht:P.underlying kt=some (.int q)):pV P kt (fun n:Int=>Value.int q n) :=
 CS _ ht (fun a b=>by simp only[Instr.sameNow,if_true];congr 1) (fun k e w=>by rw[show(10000:Nat)=9999+1 from rfl,Instr.checkKey];simp[run_underlying ht]) (fun k=>by rw[show(10000:Nat)=9999+1 from rfl,Instr.sameBits];simp)
theorem Tn{P:Program}{kt:TypeId}(ht:P.underlying kt=some .bool):pV P kt (fun n:Bool=>Value.bool n) :=
 CS _ ht (fun a b=>by simp only[Instr.sameNow];congr 1) (fun k e w=>by rw[show(10000:Nat)=9999+1 from rfl,Instr.checkKey];simp[run_underlying ht]) (fun k=>by rw[show(10000:Nat)=9999+1 from rfl,Instr.sameBits];simp)
abbrev zx(q:IntKind)(p:Int×Int):Value:=.agg #[.int q p.1,.int q p.2]
theorem Tq{P:Program}{kt e:TypeId}{q:IntKind}{i:TypeInfo}(ht:P.underlying kt=some (.array 2 e))(he:P.underlying e=some (.int q))(hi:P.info? e=some i)(hc:P.cellsOf e=1)(hs:i.size=1):pV P kt (zx q):=by
 have heq:∀ (a b:Int×Int) (w:World),(Op.equal kt (zx q a) (zx q b)).run P w=.ok (decide (a=b)) w:=fun a b w=>by
  have:=mW (P:=P) 9998 (q:=q) ht he hi hc [a.1,a.2] [b.1,b.2] rfl rfl w
  unfold Op.equal
  refine this.trans ?_
  congr 1
  rw[decide_eq_decide]
  simp[Prod.ext_iff]
 refine⟨fun k b w=>?_,fun k ks es w hes=>?_,fun k=>?_⟩
 ·have hsz:∀ w:World,(sizeOf e).run P w=.ok 1 w:=fun w=>by simp[sizeOf,typeInfo,hi,hs]
  have gen:∀ n,(Instr.checkKey b (n+2) kt (zx q k)).run P w=.ok () w:=fun n=>by
   rw[Instr.checkKey]
   simp only[Sem.run_bind,run_underlying ht,Result.andThen_ok]
   simp[Std.Legacy.Range.forIn_eq_forIn_range',Std.Legacy.Range.size,List.range',hsz,part,isAgg,run_underlying he,Instr.checkKey,Result.andThen]
  exact gen 9998
 ·have hf:=Cc (zx q) heq k w ks es 0 hes
  simp only[Nat.zero_add] at hf
  simp only[Instr.findKey,Sem.run_bind,run_underlying ht,Result.andThen_ok]
  cases es with
  | nil =>
   obtain rfl:ks=[]:=by simpa using hes.symm
   simp[Instr.findNow,pos]
  | cons e0 es =>
   cases ks with
   | nil=>simp at hes
   | cons a ks =>
    have hn:Instr.findNow (TypeDesc.array 2 e) (zx q k) (e0::es) 0=none:=by
     simp[Instr.findNow,Instr.sameNow]
    rw[hn];exact hf
 ·rw[show(10000:Nat)=9998+1+1 from rfl,Instr.sameBits];simp[Instr.sameBits]
end
section
open Go.RowKit
theorem JJ{P:Program}{t e:TypeId}(hu:P.underlying t=some (.array 4 e))(he:P.underlying e=some (.int .u64))(hi:(P.info? e).map (fun i=>i.size)=some 1)(s u:ay)(w:World) :
  (Op.equalIn 10000 t (oH s) (oH u)).run P w=.ok (decide (s=u)) w:=by
 cases hq:P.info? e with
 | none=>simp[hq] at hi
 | some i =>
  have hs:i.size=1:=by simpa [hq] using hi
  have hc:P.cellsOf e=1:=by simp[Program.cellsOf,hq,hs]
  have:=mW (P:=P) 9998 (q:=.u64) hu he hq hc [(word s 0:Nat),(word s 1:Nat),(word s 2:Nat),(word s 3:Nat)] [(word u 0:Nat),(word u 1:Nat),(word u 2:Nat),(word u 3:Nat)] rfl rfl w
  refine this.trans ?_
  congr 1
  rw[decide_eq_decide]
  constructor
  ·intro h
   simp only[List.cons.injEq,and_true,Int.natCast_inj] at h
   obtain⟨h0,h1,h2,h3⟩:=h
   refine word_inj fun i hi=>?_
   match i,hi with
   | 0,_=>exact h0
   | 1,_=>exact h1
   | 2,_=>exact h2
   | 3,_=>exact h3
  ·rintro rfl;rfl
end
section
def aK(R:Nat→Nat→Bool):Nat→List Nat
 | 0=>[]
 | n+1=>if (aK R n).any (R n) then aK R n else aK R n++[n]
def posR(R:Nat→Nat→Bool)(b:Nat):List Nat→Option Nat
 | []=>none
 | c::r=>if R b c then some 0 else (posR R b r).map (·+1)
def bf(R:Nat→Nat→Bool)(b:Nat):Nat:=(posR R b (aK R 256)).getD 0
def iZ(R:Nat→Nat→Bool):Nat:=(aK R 256).length
def bH{κ:Type}[DecidableEq κ](k:Nat→κ)(b c:Nat):Bool:=decide (k b=k c)
theorem jY(R:Nat→Nat→Bool)(n:Nat):aK R (n+1)=if (aK R n).any (R n) then aK R n else aK R n++[n]:=rfl
theorem lN(R:Nat→Nat→Bool):∀ n,∀ c∈aK R n,c<n
 | 0,c,h=>by simp[aK] at h
 | n+1,c,h=>by
  unfold aK at h
  split at h
  ·exact Nat.lt_succ_of_lt (lN R n c h)
  ·rcases List.mem_append.1 h with h | h
   ·exact Nat.lt_succ_of_lt (lN R n c h)
   ·simp at h;omega
theorem uQ(R:Nat→Nat→Bool):∀ (n i j:Nat) (_:i<j) (hj:j<(aK R n).length),(aK R n)[i]'(by omega)<(aK R n)[j]
 | 0,i,j,_,hj=>by simp[aK] at hj
 | n+1,i,j,hij,hj=>by
  by_cases h:(aK R n).any (R n)=true
  ·have e:aK R (n+1)=aK R n:=by rw[jY,if_pos h]
   simp only[e] at hj ⊢
   exact uQ R n i j hij hj
  ·have e:aK R (n+1)=aK R n++[n]:=by rw[jY,if_neg h]
   simp only[e] at hj ⊢
   rw[List.length_append,List.length_singleton] at hj
   by_cases h2:j<(aK R n).length
   ·rw[List.getElem_append_left h2,List.getElem_append_left (by omega)]
    exact uQ R n i j hij h2
   ·obtain rfl:j=(aK R n).length:=by omega
    rw[List.getElem_append_right (Nat.le_refl _),List.getElem_append_left (by omega)]
    simp
    exact lN R n _ (List.getElem_mem _)
theorem jZ(R:Nat→Nat→Bool):∀ n,(aK R n).length≤n
 | 0=>by simp[aK]
 | n+1=>by
  have:=jZ R n
  unfold aK
  split
  ·omega
  ·simp;omega
theorem zy(R:Nat→Nat→Bool)(n:Nat):∀ m,∃ l,aK R (n+m)=aK R n++l
 | 0=>⟨[],by simp⟩
 | m+1=>by
  obtain⟨l,hl⟩:=zy R n m
  by_cases h:(aK R (n+m)).any (R (n+m))=true
  ·exact⟨l,by rw[←Nat.add_assoc,jY,if_pos h,hl]⟩
  ·exact⟨l++[n+m],by rw[←Nat.add_assoc,jY,if_neg h,hl,List.append_assoc]⟩
theorem AV{R S:Nat→Nat→Bool}:∀ n,(∀ b c,b<n→c<n→R b c=S b c)→aK R n=aK S n
 | 0,_=>rfl
 | n+1,h=>by
  have ih:=AV (R:=R) (S:=S) n (fun b c hb hc=>h b c (by omega) (by omega))
  have e:(aK R n).any (R n)=(aK S n).any (S n):=by
   rw[←ih,Bool.eq_iff_iff]
   simp only[List.any_eq_true]
   constructor
   ·rintro⟨c,hc,hR⟩;exact⟨c,hc,by rw[←h n c (by omega) (by have:=lN R n c hc;omega)];exact hR⟩
   ·rintro⟨c,hc,hR⟩;exact⟨c,hc,by rw[h n c (by omega) (by have:=lN R n c hc;omega)];exact hR⟩
  rw[jY,jY,e,ih]
theorem zA(R:Nat→Nat→Bool)(b:Nat):∀ l l':List Nat,posR R b (l++l')=(posR R b l).or ((posR R b l').map (·+l.length))
 | [],l'=>by simp[posR]
 | c::r,l'=>by
  simp only[List.cons_append,posR,zA R b r l']
  split
  ·simp
  ·cases posR R b r <;> cases posR R b l' <;> simp[Nat.add_assoc]
theorem vK{R:Nat→Nat→Bool}{b:Nat}:∀ {l:List Nat},l.any (R b)=false→posR R b l=none
 | [],_=>rfl
 | c::r,h=>by
  simp only[List.any_cons,Bool.or_eq_false_iff] at h
  simp[posR,h.1,vK h.2]
theorem vM{R:Nat→Nat→Bool}{b:Nat}:∀ {l:List Nat},l.any (R b)=true→∃ i,posR R b l=some i∧i<l.length∧∃ c,l[i]?=some c∧R b c=true
 | [],h=>by simp at h
 | c::r,h=>by
  simp only[posR]
  by_cases hc:R b c=true
  ·exact⟨0,by simp[hc],by simp,c,by simp,hc⟩
  ·simp only[List.any_cons,hc,Bool.false_or] at h
   obtain⟨i,h1,h2,d,h3,h4⟩:=vM (R:=R) (b:=b) (l:=r) (by simpa using h)
   exact⟨i+1,by simp[hc,h1],by simpa using h2,d,by simpa using h3,h4⟩
theorem xG{R:Nat→Nat→Bool}(hr:∀ b,R b b=true){n b:Nat}(hb:b<n):(aK R n).any (R b)=true:=by
 obtain⟨m,rfl⟩:∃ m,n=b+1+m:=⟨n - (b+1),by omega⟩
 obtain⟨l,hl⟩:=zy R (b+1) m
 rw[hl,List.any_append]
 have:(aK R (b+1)).any (R b)=true:=by
  rw[jY]
  split
  ·assumption
  ·simp[hr]
 simp[this]
theorem KG{R:Nat→Nat→Bool}(hr:∀ b,R b b=true){n b:Nat}(hb:b<n)(hn:n≤256):posR R b (aK R n)=some (bf R b):=by
 obtain⟨m,hm⟩:∃ m,n+m=256:=⟨256 - n,by omega⟩
 obtain⟨l,hl⟩:=zy R n m
 obtain⟨i,hi,_⟩:=vM (xG hr hb)
 have:posR R b (aK R 256)=some i:=by rw[←hm,hl,zA,hi];rfl
 rw[hi,bf,this];rfl
theorem F5{R:Nat→Nat→Bool}(hr:∀ b,R b b=true){n:Nat}(hn:n<256)(h:(aK R n).any (R n)=false):aK R (n+1)=aK R n++[n]∧bf R n=(aK R n).length:=by
 have e:aK R (n+1)=aK R n++[n]:=by rw[jY,h];rfl
 refine⟨e,?_⟩
 have h1:=KG hr (Nat.lt_succ_self n) hn
 rw[e,zA,vK h] at h1
 simpa [posR,hr] using h1.symm
theorem F6{R:Nat→Nat→Bool}(hr:∀ b,R b b=true){n:Nat}(hn:n<256)(h:(aK R n).any (R n)=true):aK R (n+1)=aK R n∧posR R n (aK R n)=some (bf R n):=by
 have e:aK R (n+1)=aK R n:=by rw[jY,h];rfl
 refine⟨e,?_⟩
 rw[←e];exact KG hr (Nat.lt_succ_self n) hn
theorem JK{R:Nat→Nat→Bool}(hr:∀ b,R b b=true){b:Nat}(hb:b<256):bf R b<iZ R:=by
 obtain⟨i,hi,hlt,_⟩:=vM (xG hr hb)
 unfold bf iZ;rw[hi];exact hlt
theorem JL(R:Nat→Nat→Bool):iZ R≤256:=jZ R 256
theorem Tt{R:Nat→Nat→Bool}(hr:∀ b,R b b=true){b:Nat}(hb:b<256):bf R b<256:=Nat.lt_of_lt_of_le (JK hr hb) (JL R)
structure xH(R:Nat→Nat→Bool):Prop where
 refl:∀ b,R b b=true
 symm:∀ {b c},R b c=true→R c b=true
 trans:∀ {b c d},R b c=true→R c d=true→R b d=true
theorem Hq{R:Nat→Nat→Bool}(E:xH R){b c:Nat}(h:R b c=true):∀ l,posR R b l=posR R c l
 | []=>rfl
 | d::r=>by
  simp only[posR,Hq E h r]
  have:R b d=R c d:=by
   rw[Bool.eq_iff_iff];exact⟨fun k=>E.trans (E.symm h) k,fun k=>E.trans h k⟩
  rw[this]
theorem Rt{R:Nat→Nat→Bool}(E:xH R){b c:Nat}(hb:b<256)(hc:c<256):(bf R b=bf R c)↔R b c=true:=by
 constructor
 ·intro h
  obtain⟨i,hi,_,d,hd,hbd⟩:=vM (xG E.refl hb)
  obtain⟨j,hj,_,e,he,hce⟩:=vM (xG E.refl hc)
  have:i=j:=by unfold bf at h;rw[hi,hj] at h;exact h
  subst this
  rw[hd] at he
  obtain rfl:=Option.some.inj he
  exact E.trans hbd (E.symm hce)
 ·intro h;unfold bf;rw[Hq E h]
theorem Hr{R S:Nat→Nat→Bool}(h:∀ b c,b<256→c<256→R b c=S b c){b:Nat}(hb:b<256):bf R b=bf S b:=by
 unfold bf
 rw[AV (R:=R) (S:=S) 256 h]
 have:∀ l:List Nat,(∀ c∈l,c<256)→posR R b l=posR S b l:=by
  intro l
  induction l with
  | nil=>intro _;rfl
  | cons c r ih=>intro hl;simp only[posR,h b c hb (hl c (by simp)),ih (fun d hd=>hl d (by simp[hd]))]
 rw[this _ (lN S 256)]
theorem Ht{R S:Nat→Nat→Bool}(h:∀ b c,b<256→c<256→R b c=S b c):iZ R=iZ S:=by
 unfold iZ;rw[AV 256 h]
theorem qY{κ:Type}[DecidableEq κ](k:Nat→κ):xH (bH k) :=
 ⟨fun b=>by simp[bH],fun h=>by simp only[bH,decide_eq_true_eq] at *;exact h.symm,fun h1 h2=>by simp only[bH,decide_eq_true_eq] at *;exact h1.trans h2⟩
def ou{κ:Type}(k:Nat→κ)(l:List Nat):List (κ×Value):=(l.zipIdx).map fun p=>(k p.1,.int .u8 (p.2:Nat))
theorem AX{κ:Type}(k:Nat→κ)(l:List Nat)(n:Nat):ou k (l++[n])=ou k l++[(k n,.int .u8 (l.length:Nat))]:=by
 unfold ou;rw[List.zipIdx_append];simp
theorem lQ{κ:Type}(k:Nat→κ)(l:List Nat):(ou k l).length=l.length:=by simp[ou]
theorem AY{κ:Type}[DecidableEq κ](k:Nat→κ)(b:Nat)(l:List Nat):look (k b) (ou k l)=(posR (bH k) b l).map fun i=>Value.int .u8 (i:Nat):=by
 have gen:∀ (l:List Nat) (s:Nat),look (k b) ((l.zipIdx s).map fun p=>(k p.1,Value.int .u8 (p.2:Nat)))=(posR (bH k) b l).map fun i=>Value.int .u8 ((i+s:Nat):Int):=by
  intro l
  induction l with
  | nil=>intro s;rfl
  | cons c r ih =>
   intro s
   simp only[List.zipIdx_cons,List.map_cons,look,posR,bH,decide_eq_true_eq]
   by_cases h:k b=k c
   ·simp[h]
   ·simp only[h,if_false]
    rw[ih (s+1)]
    cases posR (bH k) b r <;> simp <;> omega
 exact gen l 0
def aT(f:Nat→Nat):Array Value:=(((List.range 256).map fun i=>((f i:Nat):Int)).map (Value.int .u8)).toArray
theorem aO(f:Nat→Nat):(aT f).size=256:=by simp[aT]
theorem wO(f g:Nat→Nat):(aT f).size=(aT g).size:=by rw[aO,aO]
theorem fF(f:Nat→Nat)(i:Nat)(h:i<256):(aT f)[i]?=some (.int .u8 (f i:Nat)):=by simp[aT,h]
theorem fK{f g:Nat→Nat}(h:∀ i,i<256→f i=g i):aT f=aT g:=by
 have e:((List.range 256).map fun i=>((f i:Nat):Int))=((List.range 256).map fun i=>((g i:Nat):Int)):=List.map_congr_left fun i hi=>by rw[h i (by simpa using hi)]
 unfold aT;rw[e]
theorem uq(f:Nat→Nat)(k v:Nat):(aT f).setIfInBounds k (.int .u8 (v:Nat))=aT (fun i=>if i=k then v else f i):=by
 apply Array.ext_getElem?
 intro i
 rw[Array.getElem?_setIfInBounds]
 by_cases hi:i<256
 ·rw[fF _ i hi,fF _ i hi,aO]
  by_cases hk:k=i
  ·subst hk;simp[hi]
  ·have:¬ i=k:=fun e=>hk e.symm
   simp[hk,this]
 ·have h1:(aT fun i=>if i=k then v else f i)[i]?=none:=by rw[Array.getElem?_eq_none];rw[aO];omega
  have h2:(aT f)[i]?=none:=by rw[Array.getElem?_eq_none];rw[aO];omega
  rw[h1,h2,aO]
  by_cases hk:k=i
  ·simp[hk,hi]
  ·simp[hk]
theorem jl(f:Nat→Nat):(aT f).all (·.oneCell')=true:=by
 rw[Array.all_eq_true_iff_forall_mem]
 intro v hv
 simp only[aT,List.mem_toArray,List.mem_map] at hv
 obtain⟨x,_,rfl⟩:=hv
 rfl
theorem nM{R:Nat→Nat→Bool}{n v:Nat}(h:bf R n=v):∀ i,i<256→(if i=n then v else if i<n then bf R i else 0)=if i<n+1 then bf R i else 0:=by
 intro i _
 by_cases h1:i=n
 ·subst h1;simp[h]
 ·by_cases h2:i<n
  ·simp[h1,h2,show i<n+1 by omega]
  ·simp[h1,h2,show ¬ i<n+1 by omega]
theorem oL(R:Nat→Nat→Bool):iZ R=(aK R 256).length:=rfl
theorem AZ{κ:Type}(k:Nat→κ)(R:Nat→Nat→Bool):ou k (aK R 0)=[]:=rfl
def nN(f g:Nat→Nat):Bool:=(List.range 256).all fun b=>f b==g b
theorem ER(f g:Nat→Nat):nN f g=true↔∀ b,b<256→f b=g b:=by
 unfold nN;simp
theorem VH{P:Program}{t e:TypeId}(hu:P.underlying t=some (.array 256 e))(he:P.underlying e=some (.int .u8))(hi:(P.info? e).map (fun i=>i.size)=some 1)(f g:Nat→Nat)(w:World) :
  (Op.equalIn 10000 t (.agg (aT f)) (.agg (aT g))).run P w=.ok (nN f g) w:=by
 cases hq:P.info? e with
 | none=>simp[hq] at hi
 | some i =>
  have hs:i.size=1:=by simpa [hq] using hi
  have hc:P.cellsOf e=1:=by simp[Program.cellsOf,hq,hs]
  have:=mW (P:=P) 9998 hu he hq hc ((List.range 256).map fun i=>((f i:Nat):Int)) ((List.range 256).map fun i=>((g i:Nat):Int)) (by simp) (by simp) w
  refine this.trans ?_
  congr 1
  rw[Bool.eq_iff_iff,ER]
  simp only[decide_eq_true_eq]
  constructor
  ·intro h b hb
   have:=List.map_inj_left.1 h b (by simpa using hb)
   omega
  ·intro h
   exact List.map_congr_left fun b hb=>by rw[h b (by simpa using hb)]
theorem rW{R:Nat→Nat→Bool}(E:xH R):∀ (n c d:Nat),c∈aK R n→d<c→R c d=false
 | 0,c,d,h,_=>by simp[aK] at h
 | n+1,c,d,h,hd=>by
  rw[jY] at h
  split at h
  ·exact rW E n c d h hd
  ·rename_i hn
   rcases List.mem_append.1 h with h | h
   ·exact rW E n c d h hd
   ·obtain rfl:c=n:=by simpa using h
    cases hR:R c d with
    | false=>rfl
    | true =>
     refine absurd ?_ hn
     obtain⟨r,hr,hdr⟩:=List.any_eq_true.1 (xG E.refl hd)
     exact List.any_eq_true.2 ⟨r,hr,E.trans hR hdr⟩
def cls(R:Nat→Nat→Bool)(n c:Nat):ay:=ofP fun d=>decide (d<n)&&R c d
theorem uw(R:Nat→Nat→Bool)(n c d:Nat):mem (cls R n c) d=(decide (d<256)&&(decide (d<n)&&R c d)):=acG _ _
theorem VI{R:Nat→Nat→Bool}(E:xH R){n c:Nat}(hn:n≤256)(hc:c∈aK R n):leastOf (cls R n c)=c:=by
 have hlt:=lN R n c hc
 refine MC _ c (by omega) ?_ fun d hd=>?_
 ·rw[uw];simp[hlt,E.refl];omega
 ·rw[uw,rW E n c d hc hd];simp
theorem F7{R:Nat→Nat→Bool}{b:Nat}:∀ {l:List Nat} {p:Nat} (hp:p<l.length),R b l[p]=true→(∀ i (h:i<p),R b (l[i]'(by omega))=false)→posR R b l=some p
 | [],p,hp,_,_=>by simp at hp
 | c::r,0,_,h,_=>by simp at h;simp[posR,h]
 | c::r,p+1,hp,h,hno=>by
  have h0:=hno 0 (by omega)
  simp only[List.getElem_cons_zero] at h0
  have ih:=F7 (R:=R) (b:=b) (l:=r) (p:=p) (by simpa using hp) (by simpa using h) (fun i hi=>by have:=hno (i+1) (by omega);simpa using this)
  simp[posR,h0,ih]
attribute [irreducible] aK
attribute [irreducible] aT bf iZ posR ou nN
end
section
open Go.RowKit
section
variable {P:Program} {ops:Array Oper} {Q:Exit→Act→World→Prop} {md:Region.Mode} {R:World→World→Prop} {T:List Nat}
def mM(P:Program)(md:Region.Mode)(ops:Array Oper)(Q:Exit→Act→World→Prop)(R:World→World→Prop)(T:List Nat):Nat→Array Bool→Act→World→Prop
 | 0,listed,a,w=>∀ w1,R w w1→Region.ready md ops listed=[]∧Q .normal a w1
 | fuel+1,listed,a,w=>∀ w1,R w w1→(Region.ready md ops listed=[]→Q .normal a w1) ∧
   ∀ i∈Region.ready md ops listed,wpOp P ops Q i (fun a' w'=>(T.contains i=false→R w1 w')∧mM P md ops Q R T fuel (listed.setIfInBounds i true) a' w') a w1
theorem mM.later(ht:∀ a b c,R a b→R b c→R a c):∀ {fuel:Nat} {listed:Array Bool} {a:Act} {w w':World},mM P md ops Q R T fuel listed a w→R w w'→mM P md ops Q R T fuel listed a w'
 | 0,_,_,_,_,h,hr=>fun w1 h1=>h w1 (ht _ _ _ hr h1)
 | _+1,_,_,_,_,h,hr=>fun w1 h1=>h w1 (ht _ _ _ hr h1)
theorem Hu(hr:∀ a,R a a):∀ (fuel:Nat) (listed:Array Bool) (a:Act) (w:World),mM P md ops Q R T fuel listed a w→wpAny P md ops Q fuel listed a w
 | 0,_,_,w,h=>h w (hr w)
 | fuel+1,_,_,w,h=>⟨(h w (hr w)).1,fun i hi=>wpOp_mono (fun a' w' h'=>Hu hr fuel _ a' w' h'.2) ((h w (hr w)).2 i hi)⟩
theorem CU(hrefl:∀ a,R a a)(ht:∀ a b c,R a b→R b c→R a c){i:Nat}{oi:Oper}{v:Value}(hi:ops[i]?=some oi)(hsel:∀ (j:Nat) (o:Oper) cs b,ops[j]?=some o→o.op≠.select cs b)
  (hQ:∀ c a w,Q (.panic c) (a.put oi.dst v) w→Q (.panic c) a w) (hit:T.contains i=false):∀ (fuel:Nat) (listed:Array Bool) (a:Act) (w:World),Cl md ops listed →
   (∀ j oj,ops[j]?=some oj→j≠i→listed.getD j true=false→(∀ e∈oj.after,Region.binds md e=true→e.on≠i)→oi.apart ops oj=true) →
   i∈Region.ready md ops listed→((Gives P ops R oi v a w∧∀ t∈T,needs md ops i ops.size t=true)∨∀ w0,Gives P ops R oi v a w0) →
   mM P md ops Q R T fuel (listed.setIfInBounds i true) (a.put oi.dst v) w→mM P md ops Q R T (fuel+1) listed a w:=by
 intro fuel
 induction fuel with
 | zero =>
  intro listed a w _ _ hr hg H w1 hw1
  have hy:Gives P ops R oi v a w:=hg.elim (·.1) (· w)
  refine⟨fun h=>(by rw[h] at hr;cases hr),fun j hj=>?_⟩
  by_cases hji:j=i
  ·subst hji
   exact hy.wpOp hrefl hi hw1 fun w2 h2=>⟨fun _=>h2,fun w3 h3=>H w3 (ht _ _ _ hw1 (ht _ _ _ h2 h3))⟩
  ·have:=ready_mono hj hji
   rw[(H w (hrefl _)).1] at this
   cases this
 | succ fuel ih =>
  intro listed a w hcl hfree hr hg H w1 hw1
  have hy:Gives P ops R oi v a w:=hg.elim (·.1) (· w)
  refine⟨fun h=>(by rw[h] at hr;cases hr),fun j hj=>?_⟩
  by_cases hji:j=i
  ·subst hji
   exact hy.wpOp hrefl hi hw1 fun w2 h2=>⟨fun _=>h2,mM.later ht H (ht _ _ _ hw1 h2)⟩
  ·have h1:=(H w1 hw1).2 j (ready_mono hj hji)
   obtain⟨hjun,oj,hoj,hall⟩:=mem_ready.1 hj
   have hjt:(∀ t∈T,needs md ops i ops.size t=true)→T.contains j=false:=fun hn=>by
    cases hc:T.contains j with
    | false=>rfl
    | true =>
     have h5:=xE hcl _ _ _ hoj hall (hn j (by simpa using hc))
     have h6:=(mem_ready.1 hr).1
     rcases Nat.lt_or_ge i listed.size with h' | h'
     ·simp[h'] at h5 h6;rw[h6] at h5;cases h5
     ·simp[Array.getElem?_eq_none h'] at h5
   have hnot:∀ e∈oj.after,Region.binds md e=true→e.on≠i:=fun e he hb heq=>by
    have h1:=hall e he hb
    have h0:=(mem_ready.1 hr).1
    rw[heq] at h1
    rcases Nat.lt_or_ge i listed.size with h' | h'
    ·simp[h'] at h0 h1;rw[h0] at h1;cases h1
    ·simp[Array.getElem?_eq_none h'] at h1
   have h2:=KE (R:=R) hoj (hfree j oj hoj hji hjun hnot) (fun cs b=>hsel i oi cs b hi) (fun cs b=>hsel j oj cs b hoj) hQ h1
   have hfree':∀ k ok,ops[k]?=some ok→k≠i→(listed.setIfInBounds j true).getD k true=false →
     (∀ e∈ok.after,Region.binds md e=true→e.on≠i)→oi.apart ops ok=true:=fun k ok hk hki hun hno=>by
    refine hfree k ok hk hki ?_ hno
    by_cases hjk:j=k
    ·subst hjk;exact hjun
    ·rw[getD_set_ne true hjk] at hun;exact hun
   refine wpOp_mono (fun a' w' h3=>⟨h3.2.1,ih (listed.setIfInBounds j true) a' w' (hcl.step hj) hfree' (ready_mono hr (Ne.symm hji)) (hg.elim (fun hg=>.inl ⟨h3.1 _ (hy.later ht (ht _ _ _ hw1 (h3.2.1 (hjt hg.2)))),hg.2⟩) (fun hg=>.inr fun w0=>h3.1 w0 (hg w0))) ?_⟩) h2
   rw[Array.setIfInBounds_comm _ _ hji]
   exact h3.2.2
end
section
variable {P:Program} {ops:Array Oper} {Q:Exit→Act→World→Prop} {md:Region.Mode} {T:List Nat} {R:World→World→Prop}
theorem uy{listed:Array Bool}{i:Nat}(hc:(qX md ops listed&&T.all (needs md ops i ops.size ·)&&!T.contains i)=true):Cl md ops listed∧(∀ t∈T,needs md ops i ops.size t=true)∧T.contains i=false:=by
 simp only[Bool.and_eq_true,Bool.not_eq_true',List.all_eq_true] at hc
 exact⟨Cl.ofB hc.1.1,hc.1.2,hc.2⟩
theorem KH{listed:Array Bool}{i:Nat}(hc:(qX md ops listed&&!T.contains i)=true):Cl md ops listed∧T.contains i=false:=by
 simp only[Bool.and_eq_true,Bool.not_eq_true'] at hc
 exact⟨Cl.ofB hc.1,hc.2⟩
theorem A8[hR:iT R]{i:Nat}{oi:Oper}{v:Value}{fuel:Nat}{listed:Array Bool}{a:Act}{w:World}(hi:ops[i]?=some oi)
  (hs:Region.noSelect ops=true) (hf:Region.free md ops listed i=true) (hr:(Region.ready md ops listed).contains i=true) (hc:(qX md ops listed&&T.all (needs md ops i ops.size ·)&&!T.contains i)=true)
  (hQ:∀ c a w,Q (.panic c) (a.put oi.dst v) w→Q (.panic c) a w) (hw:Region.wanted oi (yielded ops a.tmps)=true) (hy:∀ w1,R w w1→(execOp a.eval oi).run P w1=.ok (.value v) w1)
  (h:mM P md ops Q R T fuel (listed.setIfInBounds i true) (a.put oi.dst v) w):mM P md ops Q R T (fuel+1) listed a w :=
 CU hR.refl hR.trans hi (Region.noSelect_spec hs) hQ (uy hc).2.2 fuel listed a w (uy hc).1 (Region.free_spec hi hf) (by simpa using hr) (.inl ⟨.inl ⟨hw,fun w1 h1=>.inl (hy w1 h1)⟩,(uy hc).2.1⟩) h
theorem YO[hR:iT R]{i:Nat}{oi:Oper}{v:Value}{fuel:Nat}{listed:Array Bool}{a:Act}{w:World}(hi:ops[i]?=some oi)
  (hs:Region.noSelect ops=true) (hf:Region.free md ops listed i=true) (hr:(Region.ready md ops listed).contains i=true) (hc:(qX md ops listed&&!T.contains i)=true)
  (hQ:∀ c a w,Q (.panic c) (a.put oi.dst v) w→Q (.panic c) a w) (hw:Region.wanted oi (yielded ops a.tmps)=true) (hy:∀ w1,(execOp a.eval oi).run P w1=.ok (.value v) w1)
  (h:mM P md ops Q R T fuel (listed.setIfInBounds i true) (a.put oi.dst v) w):mM P md ops Q R T (fuel+1) listed a w :=
 CU hR.refl hR.trans hi (Region.noSelect_spec hs) hQ (KH hc).2 fuel listed a w (KH hc).1 (Region.free_spec hi hf) (by simpa using hr) (.inr fun _=>.inl ⟨hw,fun w1 _=>.inl (hy w1)⟩) h
theorem YP[hR:iT R]{i:Nat}{oi:Oper}{v:Value}{fuel:Nat}{listed:Array Bool}{a:Act}{w:World}{f:FuncId}{args:Array Value}(hi:ops[i]?=some oi)
  (hs:Region.noSelect ops=true) (hf:Region.free md ops listed i=true) (hr:(Region.ready md ops listed).contains i=true) (hc:(qX md ops listed&&T.all (needs md ops i ops.size ·)&&!T.contains i)=true)
  (hQ:∀ c a w,Q (.panic c) (a.put oi.dst v) w→Q (.panic c) a w) (hw:Region.wanted oi (yielded ops a.tmps)=true) (he:∀ w1,(execOp a.eval oi).run P w1=.ok (.enter f args) w1)
  (hy:∀ w1,R w w1→Calls P f args w1 (bV w1 v))
  (h:mM P md ops Q R T fuel (listed.setIfInBounds i true) (a.put oi.dst v) w):mM P md ops Q R T (fuel+1) listed a w :=
 CU hR.refl hR.trans hi (Region.noSelect_spec hs) hQ (uy hc).2.2 fuel listed a w (uy hc).1 (Region.free_spec hi hf) (by simpa using hr) (.inl ⟨.inl ⟨hw,fun w1 h1=>.inr ⟨f,args,he w1,(hy w1 h1).mono fun _ _ k=>⟨k.1,hR.later _ _ k.2⟩⟩⟩,(uy hc).2.1⟩) h
theorem dP{i:Nat}{oi:Oper}{fuel:Nat}{listed:Array Bool}{a:Act}{w:World}(hr:Region.ready md ops listed=[i])(hi:ops[i]?=some oi)
  (h:∀ w1,R w w1→∀ K:Act→World→Prop,Shut (∀ a' w',(T.contains i=false→R w1 w')→mM P md ops Q R T fuel (listed.setIfInBounds i true) a' w'→K a' w')→if Region.wanted oi (yielded ops a.tmps)=true then Oper.wp P oi a w1 K Q else K (a.put oi.dst undef) w1) :
  mM P md ops Q R T (fuel+1) listed a w:=fun w1 h1=>by
 refine⟨fun h0=>(by rw[hr] at h0;cases h0),fun j hj=>?_⟩
 rw[hr,List.mem_singleton] at hj
 subst hj
 exact wpOp_step hi (fun K' hK=>h w1 h1 K' (fun a' w' k1 k2=>hK a' w' ⟨k1,k2⟩))
theorem lC{listed:Array Bool}{a:Act}{w:World}(hr:Region.ready md ops listed=[])(h:∀ w1,R w w1→Q .normal a w1):∀ fuel,mM P md ops Q R T fuel listed a w
 | 0=>fun w1 h1=>⟨hr,h w1 h1⟩
 | _+1=>fun w1 h1=>⟨fun _=>h w1 h1,by rw[hr];simp⟩
theorem iQ[hR:iT R](T:List Nat){id:Nat}{a:Act}{w:World}(hm:P.follows .mixedOrders=true)
  (h:mM P .any ops Q R T ops.size (Array.replicate ops.size false) a w.drew):(Code.region id ops true).wp P Q a w :=
 wp_region_any hm (Hu hR.refl _ _ _ _ h)
theorem Ce[hR:iT R](i:Nat){oi:Oper}(v:Value){fuel:Nat}{listed:Array Bool}{a:Act}{w:World}(hi:ops[i]?=some oi)(hy:∀ w1,R w w1→(execOp a.eval oi).run P w1=.ok (.value v) w1)
  (h:mM P md ops Q R T fuel (listed.setIfInBounds i true) (a.put oi.dst v) w) (hw:Region.wanted oi (yielded ops a.tmps)=true:=by rfl)
  (hc:(Region.noSelect ops&&(Region.free md ops listed i&&((Region.ready md ops listed).contains i&&(qX md ops listed&&T.all (needs md ops i ops.size ·)&&!T.contains i))))=true:=by kernel_rfl)
  (hQ:∀ c a w,Q (.panic c) (a.put oi.dst v) w→Q (.panic c) a w:=by exact fun _ _ _ h=>h):mM P md ops Q R T (fuel+1) listed a w:=by
 rw[Bool.and_eq_true,Bool.and_eq_true,Bool.and_eq_true] at hc
 exact A8 hi hc.1 hc.2.1 hc.2.2.1 hc.2.2.2 hQ hw hy h
theorem Nr[hR:iT R](i:Nat){oi:Oper}(v:Value){fuel:Nat}{listed:Array Bool}{a:Act}{w:World}(hi:ops[i]?=some oi)(hy:∀ w1,(execOp a.eval oi).run P w1=.ok (.value v) w1)
  (h:mM P md ops Q R T fuel (listed.setIfInBounds i true) (a.put oi.dst v) w) (hw:Region.wanted oi (yielded ops a.tmps)=true:=by rfl)
  (hc:(Region.noSelect ops&&(Region.free md ops listed i&&((Region.ready md ops listed).contains i&&(qX md ops listed&&!T.contains i))))=true:=by kernel_rfl)
  (hQ:∀ c a w,Q (.panic c) (a.put oi.dst v) w→Q (.panic c) a w:=by exact fun _ _ _ h=>h):mM P md ops Q R T (fuel+1) listed a w:=by
 rw[Bool.and_eq_true,Bool.and_eq_true,Bool.and_eq_true] at hc
 exact YO hi hc.1 hc.2.1 hc.2.2.1 hc.2.2.2 hQ hw hy h
theorem oM[hR:iT R]{i:Nat}{l:List Nat}{oi:Oper}(v:Value){fuel:Nat}{listed:Array Bool}{a:Act}{w:World}(hi:ops[i]?=some oi)(hy:∀ w1,(execOp a.eval oi).run P w1=.ok (.value v) w1)
  (h:Pl l (mM P md ops Q R T fuel (listed.setIfInBounds i true) (a.put oi.dst v) w)) (hw:Region.wanted oi (yielded ops a.tmps)=true:=by rfl)
  (hc:(Region.noSelect ops&&(Region.free md ops listed i&&((Region.ready md ops listed).contains i&&(qX md ops listed&&!T.contains i))))=true:=by kernel_rfl)
  (hQ:∀ c a w,Q (.panic c) (a.put oi.dst v) w→Q (.panic c) a w:=by exact fun _ _ _ h=>h):Pl (i::l) (mM P md ops Q R T (fuel+1) listed a w):=by
 unfold Pl at *
 exact Nr i v hi hy h hw hc hQ
theorem clT[hR:iT R](i:Nat){oi:Oper}(f:FuncId)(args:Array Value)(v:Value){fuel:Nat}{listed:Array Bool}{a:Act}{w:World}(hi:ops[i]?=some oi)
  (he:∀ w1,(execOp a.eval oi).run P w1=.ok (.enter f args) w1) (hy:∀ w1,R w w1→Calls P f args w1 (bV w1 v))
  (h:mM P md ops Q R T fuel (listed.setIfInBounds i true) (a.put oi.dst v) w) (hw:Region.wanted oi (yielded ops a.tmps)=true:=by rfl)
  (hc:(Region.noSelect ops&&(Region.free md ops listed i&&((Region.ready md ops listed).contains i&&(qX md ops listed&&T.all (needs md ops i ops.size ·)&&!T.contains i))))=true:=by kernel_rfl)
  (hQ:∀ c a w,Q (.panic c) (a.put oi.dst v) w→Q (.panic c) a w:=by exact fun _ _ _ h=>h):mM P md ops Q R T (fuel+1) listed a w:=by
 rw[Bool.and_eq_true,Bool.and_eq_true,Bool.and_eq_true] at hc
 exact YP hi hc.1 hc.2.1 hc.2.2.1 hc.2.2.2 hQ hw he hy h
end
end
section
open Go.RowKit
theorem dL{P:Program}{ops:Array Oper}{rest:List Oper}{o:Oper}{a:Act}{w:World}{Q:Exit→Act→World→Prop}(hw:Region.wanted o (yielded ops a.tmps)=true)(ty:TypeId)(x:Operand)(ho:o.op=.load ty x)
  (g:Nat) (hx:a.eval x=.pointer (some ⟨g,0,none⟩)) (t:TypeId) (cs:Array Value) (fr:Nat×Nat) (d:TypeDesc) (hg:w.heap[g]?=some (.cells cs t fr))
  (hu:P.underlying ty=some d) (hd:(match d with | .struct _ | .array _ _=>true | _=>false)=true) (hi:(P.info? ty).map (·.size)=some cs.size)
  (h:wpList P ops Q rest (a.put o.dst (.agg cs)) w):wpList P ops Q (o::rest) a w :=
 BigFrame.wpList_want hw fun _ hK=>wp_load_row ty x ho g hx t cs fr d hg hu hd hi (hK _ _ h)
end
section
open Go.RowKit
theorem Own.less{α:Type}{w:World}{base E size n cap:Nat}{enc:α→List Value}{a:Option Addr}{xs ys:List α}(h:Own w base E size enc (.slice a n cap) (xs++ys)):Own w base E size enc (.slice a xs.length cap) xs:=by
 obtain⟨a',cap',hv,hle,hm,hh⟩:=h
 obtain⟨rfl,_,rfl⟩:=Value.slice.inj hv
 rw[List.length_append] at hle
 refine⟨_,_,rfl,by omega,hm,?_⟩
 rcases hh with hh | ⟨g,cur,ha,hbg,hg,hs,hx⟩
 ·exact .inl hh
 ·refine .inr ⟨g,cur,ha,hbg,hg,hs,fun i hi j hj=>?_⟩
  have:=hx i (by rw[List.length_append];omega) j hj
  rwa[List.getElem_append_left hi] at this
end
section
open Go.RowKit
def Halt(p:Prop):Prop:=p
theorem Halt.go{p:Prop}(h:Halt p):p:=h
theorem Halt.gen{P:Program}{ops:Array Oper}{l:List Oper}{Q:Exit→Act→World→Prop}{a:Act}{w:World}(h:∀ W,W=w→wpList P ops Q l a W):Halt (wpList P ops Q l a w):=h w rfl
end
section
open Go.RowKit
theorem gu.open{α:Type}{w w':World}{E size:Nat}{enc:α→List Value}{L:List α}{e:Ending}(h:gu w E size enc L e w'):∃ (a:Option Addr) (cap:Nat),e=.returned (.slice a L.length cap)∧Own w' w.heap.size E size enc (.slice a L.length cap) L∧Below w.heap.size w w':=h
end
section
def iU(v:Nat):List Nat:=(List.range 64).filter fun j=>v.testBit j
theorem ES:iU 0=[]:=by simp[iU]
theorem Ns(v:Nat)(h0:v≠0)(h:v<18446744073709551616):iU v=Lib.ctz 64 v::iU (v &&& (v - 1))∧Lib.ctz 64 v<64∧v &&& (v - 1)<v:=by
 obtain⟨m,hm,hk⟩:=Lib.ctzFrom_spec 64 v (by omega) h
 have e:Lib.ctz 64 v=Lib.ctzFrom 64 v:=by simp[Lib.ctz,h0]
 rw[e]
 generalize Lib.ctzFrom 64 v=k at *
 have hp:0<2 ^ k:=Nat.pow_pos (by decide)
 have h1:v - 1=2 ^ k*(2*m)+(2 ^ k - 1):=by rw[hm,Nat.mul_add];omega
 have tv:∀ j,v.testBit j=(decide (k≤j)&&(2*m+1).testBit (j - k)):=fun j=>by rw[hm,Nat.testBit_two_pow_mul]
 have tp:∀ j,(v &&& (v - 1)).testBit j=(decide (k<j)&&v.testBit j):=fun j=>by
  rw[Nat.testBit_and,h1,Nat.testBit_two_pow_mul_add _ (by omega),tv]
  by_cases a:j<k
  ·simp[a,show ¬ k≤j by omega,show ¬ k<j by omega]
  ·by_cases b:j=k
   ·subst b;simp
   ·obtain⟨d,rfl⟩:∃ d,j=k+(d+1):=⟨j - k - 1,by omega⟩
    rw[show k+(d+1) - k=d+1 by omega]
    simp[Nat.testBit_succ,show ¬ k+(d+1)<k by omega,show k≤k+(d+1) by omega,show k<k+(d+1) by omega]
    rw[show(2*m+1) / 2=m by omega]
    exact id
 refine⟨?_,hk,?_⟩
 ·unfold iU
  have hr:List.range 64=List.range k++(k::(List.range (64 - (k+1))).map (k+1+·)):=by
   rw[show(64:Nat)=(k+1)+(64 - (k+1)) by omega,List.range_add,List.range_succ]
   simp
  rw[hr,List.filter_append,List.filter_append,List.filter_cons,List.filter_cons]
  have f1:(List.range k).filter (fun j=>v.testBit j)=[]:=List.filter_eq_nil_iff.2 fun x hx=>by rw[tv];simp[Nat.not_le.2 (List.mem_range.1 hx)]
  have f2:(List.range k).filter (fun j=>(v &&& (v - 1)).testBit j)=[]:=List.filter_eq_nil_iff.2 fun x hx=>by rw[tp];simp[Nat.not_lt.2 (Nat.le_of_lt (List.mem_range.1 hx))]
  have f3:v.testBit k=true:=by rw[tv];simp
  have f4:(v &&& (v - 1)).testBit k=false:=by rw[tp];simp
  rw[f1,f2,f3,f4]
  simp only[List.nil_append,if_true,Bool.false_eq_true,if_false]
  congr 1
  refine List.filter_congr fun x hx=>?_
  obtain⟨y,_,rfl⟩:=List.mem_map.1 hx
  rw[tp];simp[show k<k+1+y by omega]
 ·exact Nat.lt_of_le_of_lt Nat.and_le_right (by omega)
def jq(i v:Nat):List Nat:=(iU v).map (64*i+·)
def elems(s:ay):List Nat:=(List.range 256).filter (mem s)
def wP(s:ay):Nat→Nat→List Nat
 | _,0=>[]
 | i,f+1=>jq i (word s i)++wP s (i+1) f
theorem Nu(s:ay)(i:Nat):((List.range 64).map (64*i+·)).filter (mem s)=jq i (word s i):=by
 rw[List.filter_map]
 unfold jq iU
 congr 1
 refine List.filter_congr fun x hx=>?_
 rw[jy];simp[List.mem_range.1 hx]
theorem ET(s:ay):elems s=wP s 0 4:=by
 unfold elems
 rw[show List.range 256=(List.range 64).map (64*0+·)++((List.range 64).map (64*1+·)++((List.range 64).map (64*2+·)++(List.range 64).map (64*3+·))) by decide +kernel]
 simp only[List.filter_append,Nu,wP,List.append_nil]
theorem YQ{s:ay}{x:Nat}(h:x∈elems s):x<256:=List.mem_range.1 (List.mem_filter.1 h).1
theorem MF(s:ay):leastOf s=match elems s with | []=>-1 | b::_=>(b:Int):=by
 unfold leastOf elems
 generalize List.range 256=l
 induction l with
 | nil=>rfl
 | cons a l ih =>
  rw[List.find?_cons,List.filter_cons]
  cases mem s a
  ·simpa using ih
  ·rfl
end
end Go.Proofs.YtbemonecmmnlcaaGreatDoor
