/- The texts of T6, in few letters (mini.py). -/
import Derived.Test.YtbemonecmmnlcaaGreatDoorU5
import Derived.RangeFuncNested
import Derived.RangeFuncBound
import Derived.Shelf.RegionOpen
import Derived.OwnWalkIn
import Derived.LoopNIn
import Derived.LoopIn
set_option linter.unusedVariables false
set_option linter.unusedSimpArgs false
set_option maxHeartbeats 1000000
namespace Go.Proofs.YtbemonecmmnlcaaGreatDoor
section
open Go.RowKit
theorem ZR(x a1 b1 a2 b2 c r:Nat)(w:World)
  (ha1:bits BinOp.and IntKind.u64 ((x:Int) / 2) 6148914691236517205=(a1:Int)) (hb1:bits BinOp.and IntKind.u64 (x:Int) 6148914691236517205=(b1:Int)) (h1:a1+b1<18446744073709551616)
  (ha2:bits BinOp.and IntKind.u64 (((a1:Int)+(b1:Int)) / 4) 3689348814741910323=(a2:Int)) (hb2:bits BinOp.and IntKind.u64 ((a1:Int)+(b1:Int)) 3689348814741910323=(b2:Int)) (h2:(a2+b2) / 16+(a2+b2)<18446744073709551616)
  (hc:bits BinOp.and IntKind.u64 (((a2:Int)+(b2:Int)) / 16+((a2:Int)+(b2:Int))) 1085102592571150095=(c:Int)) (h3:c≤578721382704613384)
  (hr:bits BinOp.and IntKind.i64 ((c:Int)+(c:Int) / 256+((c:Int)+(c:Int) / 256) / 65536+((c:Int)+(c:Int) / 256+((c:Int)+(c:Int) / 256) / 65536) / 4294967296) 127=(r:Int)) :
  Calls Tryz.prog 221 #[.int .u64 x] w fun e w'=>e=.returned (.int .i64 r)∧w'=w:=by
 go_enter Tryz.func221,Tryz.ntmps221
 go_wp2
 go_ret
 exact⟨rfl,rfl⟩
theorem VU(x d M:Nat)(hx:x<18446744073709551616)(hM:M<18446744073709551616):bits BinOp.and IntKind.u64 ((x:Int) / (d:Int)) (M:Int)=((x / d &&& M:Nat):Int):=by
 rw[←Int.natCast_ediv];exact bits_and_u64_nat _ _ (Nat.lt_of_le_of_lt (Nat.div_le_self _ _) hx) hM
theorem ahr(x:Nat)(hx:x<18446744073709551616)(w:World) :
  Calls Tryz.prog 221 #[.int .u64 x] w fun e w'=>e=.returned (.int .i64 ((jw x).length:Nat))∧w'=w:=by
 obtain⟨h3,hs⟩:=acH x
 have hp1:x / 2 &&& 6148914691236517205≤6148914691236517205:=Nat.and_le_right
 have hp2:x &&& 6148914691236517205≤6148914691236517205:=Nat.and_le_right
 have hq1:jk x / 4 &&& 3689348814741910323≤3689348814741910323:=Nat.and_le_right
 have hq2:jk x &&& 3689348814741910323≤3689348814741910323:=Nat.and_le_right
 have hb1:jk x<18446744073709551616:=by unfold jk;omega
 have hb2:mO (jk x) / 16+mO (jk x)<18446744073709551616:=by unfold mO;omega
 have c1:(((x / 2 &&& 6148914691236517205:Nat):Int)+((x &&& 6148914691236517205:Nat):Int))=((jk x:Nat):Int):=by unfold jk;omega
 have c2:(((jk x / 4 &&& 3689348814741910323:Nat):Int)+((jk x &&& 3689348814741910323:Nat):Int))=((mO (jk x):Nat):Int):=by unfold mO;omega
 refine ZR x (x / 2 &&& 6148914691236517205) (x &&& 6148914691236517205) (jk x / 4 &&& 3689348814741910323) (jk x &&& 3689348814741910323) (xu (mO (jk x))) _ w
  (VU x 2 6148914691236517205 hx (by decide)) (bits_and_u64_nat x 6148914691236517205 hx (by decide)) hb1 ?_ ?_ hb2 ?_ h3 ?_
 ·rw[c1];exact VU _ 4 3689348814741910323 hb1 (by decide)
 ·rw[c1];exact bits_and_u64_nat _ 3689348814741910323 hb1 (by decide)
 ·rw[c2,show((mO (jk x):Nat):Int) / 16+((mO (jk x):Nat):Int)=((mO (jk x) / 16+mO (jk x):Nat):Int) by omega]
  exact bits_and_u64_nat _ 1085102592571150095 hb2 (by decide)
 ·rw[i64_and127,←hs]
  generalize xu (mO (jk x))=c
  omega
def Fq(s:aA):Nat→Nat
 | 0=>0
 | j+1=>Fq s j+(jw (word s j)).length
theorem VW(s:aA):∀ j,Fq s j≤64*j
 | 0=>Nat.le_refl _
 | j+1=>by
  have h:=VW s j
  have h2:(jw (word s j)).length≤64:=by have:=List.length_filter_le (fun i=>(word s j).testBit i) (List.range 64);simpa [jw] using this
  simp only[Fq];omega
theorem XL(s:aA):Fq s 4=(elems s).length:=by
 rw[Iu];simp[Fq,zC,jX];omega
theorem KZ(s:aA)(w:World):Calls Tryz.prog 176 #[.agg (eY s)] w (bM w (.int .i64 ((elems s).length:Nat))):=by
 rw[←XL]
 go_enter Tryz.func176,Tryz.ntmps176
 go_wp2
 go_loopw [3,7] (fun n i wr=>∃ j:Nat,j≤4∧i=.int .i64 j∧n=.int .i64 (Fq s j:Nat)∧Below w.heap.size w wr) (fun _ i _=>4 - (intOf i).toNat)
 case atStart=>exact⟨0,Nat.zero_le _,rfl,rfl,by go_grown⟩
 case round =>
  obtain⟨j,hj,rfl,rfl,hB⟩:=hrel
  by_cases hlt:j<4
  ·have gw:=Fj s j hlt
   have hle:=VW s j
   have hO:=ahr (word s j) (word_lt s j)
   have hst:Fq s (j+1)=Fq s j+(jw (word s j)).length:=rfl
   have hle2:(jw (word s j)).length≤64:=by have:=List.length_filter_le (fun i=>(word s j).testBit i) (List.range 64);simpa [jw] using this
   have HO:=ah hO
   clear hO
   generalize (jw (word s j)).length=m at *
   go_wp2_with (go_at_call 221;go_must (refine(HO.out _).mono ?_;rintro e w1 ⟨rfl,rfl⟩))
   go_roundw
   case rel=>exact⟨j+1,hlt,by go_num,by rw[hst];go_num,hB⟩
   case measure=>simp[intOf];omega
  ·obtain rfl:j=4:=by omega
   go_wp2
   go_ret
   exact⟨rfl,hB⟩
end
section
open Go.RowKit
abbrev Rh:Value:=.agg #[.int .i64 0,.int .u64 0,.int .u64 0,.int .u64 0,.int .u64 0,.slice none 0 0,.int .i64 0,.int .i64 0]
abbrev bI:Array Value:=#[.int .i64 0,.int .u64 0,.int .u64 0,.int .u64 0,.int .u64 0,.slice none 0 0,.int .i64 0,.int .i64 0]
theorem Fv:eu Tryz.prog 145 151 Rh 8 80 :=
 ⟨Tryz.underlying145,info_parts (by kernel_rfl),rfl,by decide⟩
theorem ZT(w:World):ak w (.slice none 0 0) 8 Vt.cells ([]:List Vt):=⟨none,0,0,0,rfl,Nat.le_refl _,by simp[maxLen],.inr ⟨rfl,fun _=>rfl⟩,fun i h=>by simp at h⟩
theorem ZU(w:World)(k:Int)(s:aA)(hk:I64 k):Lies w (.mk k s none 0 [] 0 0):=.mk k s none 0 [] 0 0 hk (by decide) (by decide) (ZT w) (fun i h=>by simp at h)
theorem agt(S:Nat→Prop)(k:Int)(s:aA):On S (.mk k s none 0 [] 0 0):=.mk k s none 0 [] 0 0 (fun h=>by simp at h) (fun i h=>by simp at h)
abbrev Qu(k:Int)(s:aA):Tr:=.mk k s [] 0 0
theorem agu(k:Int)(s:aA):(Vt.mk k s none 0 [] 0 0).tr=Qu k s:=by rw[Vt.jI];rfl
theorem Ri{w w':World}(k:Int)(s:aA)(hk:I64 k)(hb:Below w.heap.size w w'):QT w (Qu k s) (.returned (.agg (aC k s none 0 0 0 0).toArray)) w' :=
 ⟨.mk k s none 0 [] 0 0,rfl,agu k s,ZU w' k s hk,agt _ k s,hb⟩
theorem La(s:aA)(w:World):Calls Tryz.prog 177 #[oh s] w (QT w (Qu 3 s)):=by
 go_enter Tryz.func177,Tryz.ntmps177
 go_wp2
 exact fU Tryz.results177 rfl (cs:=(aC 3 s none 0 0 0 0).toArray) (Box.new' (World.size_alloc _ _).symm _ _) Tryz.underlying151 rfl (by kernel_rfl) rfl (Ri 3 s (by decide) (by go_grown))
theorem U7(w:World):Calls Tryz.prog 305 #[] w (bM w (.agg (aC 2 0 none 0 0 0 0).toArray)):=by
 have hz:aC 2 0 none 0 0 0 0=[.int .i64 2,.int .u64 0,.int .u64 0,.int .u64 0,.int .u64 0,.slice none 0 0,.int .i64 0,.int .i64 0]:=by simp only[aC,qQ];rfl
 go_enter Tryz.func305,Tryz.ntmps305
 go_wp2
 exact fU Tryz.results305 rfl (cs:=(aC 2 0 none 0 0 0 0).toArray) (by rw[hz];exact Box.new' rfl _ _) Tryz.underlying151 rfl (by kernel_rfl) rfl ⟨rfl,by go_grown⟩
theorem XM(w:World):Calls Tryz.prog 305 #[] w (QT w (Qu 2 0)):=(U7 w).mono fun e w' h=>by
 obtain⟨rfl,hb⟩:=h
 exact Ri 2 0 (by decide) hb
end
section
open Go.RowKit
theorem ac3{P:Program}{t e:TypeId}(hu:P.underlying t=some (.array 4 e))(he:P.underlying e=some (.int .u64))(hi:(P.info? e).map (fun i=>i.size)=some 1)(s u:aA)(w:World) :
  (Op.equalIn 10000 t (oh s) (oh u)).run P w=.ok (decide (s=u)) w:=by
 cases hq:P.info? e with
 | none=>simp[hq] at hi
 | some i =>
  have hs:i.size=1:=by simpa [hq] using hi
  have hc:P.cellsOf e=1:=by simp[Program.cellsOf,hq,hs]
  have:=pF (P:=P) 9998 (q:=.u64) hu he hq hc [(word s 0:Nat),(word s 1:Nat),(word s 2:Nat),(word s 3:Nat)] [(word u 0:Nat),(word u 1:Nat),(word u 2:Nat),(word u 3:Nat)] rfl rfl w
  refine this.trans ?_
  congr 1
  rw[decide_eq_decide]
  constructor
  ·intro h
   simp only[List.cons.injEq,and_true,Int.natCast_inj] at h
   obtain⟨h0,h1,h2,h3⟩:=h
   refine word_inj fun i hi=>?_
   match i,hi with
   | 0,_=>exact h0
   | 1,_=>exact h1
   | 2,_=>exact h2
   | 3,_=>exact h3
  ·rintro rfl;rfl
end
section
open Go.RowKit
theorem room_of_none{F:Fence}(hd:F.depth=none)(k:Nat):F.room k:=fun d h=>by rw[hd] at h;cases h
theorem ZV{F:Fence}(hd:F.depth=none){m m':Nat}{P:Program}{l:Nat}{f:FuncId}{tmps:Array Value}{assign body:Code}{w:World}{R:Ending→World→Prop}
  (h:RoundIn F m P l f tmps assign body w R):RoundIn F m' P l f tmps assign body w R:=⟨h.1,fun c cs _=>h.2 c cs (room_of_none hd _)⟩
theorem ZW{F:Fence}(hd:F.depth=none){m:Nat}(m':Nat){P:Program}{l:Nat}{args:Array Value}{W:World}{R:Ending→World→Prop}(h:YieldAt F m P l args W R):YieldAt F m' P l args W R:=by
 obtain⟨fn,tmps,assign,body,hy,hR⟩:=h
 exact⟨fn,tmps,assign,body,hy,ZV hd hR⟩
structure aS(X:Nat→Prop)(W W':World):Prop where
 size:W.heap.size≤W'.heap.size
 same:∀ b,¬ X b→∀ (c:Array Value) (E:Nat) (fr:Nat×Nat),W.heap[b]?=some (.cells c E fr)→W'.heap[b]?=some (.cells c E fr)
section
variable {X:Nat→Prop} {A B C W W':World}
theorem aS.refl(X:Nat→Prop)(W:World):aS X W W:=⟨Nat.le_refl _,fun _ _ _ _ _ h=>h⟩
theorem aS.trans(h:aS X A B)(k:aS X B C):aS X A C:=⟨Nat.le_trans h.size k.size,fun b hb c E fr e=>k.same b hb c E fr (h.same b hb c E fr e)⟩
theorem aS.below(h:Below W.heap.size W W'):aS X W W':=⟨h.size,fun b _ _ _ _ e=>(h.block b (Array.getElem?_eq_some_iff.1 e).1).trans e⟩
theorem aS.set(W:World)(a:Addr)(v:Value)(h:X a.block):aS X W (W.setCell a v) :=
 ⟨by simp[World.setCell],fun b hb _ _ _ e=>(heap_setCell_other W a b v (fun e=>hb (e▸h))).trans e⟩
theorem aS.put{l:Nat}{o o':Obj}(h:W.heap[l]?=some o)(hc:o.isCells=false):aS X W (W.putObj l o') :=
 ⟨by simp,fun b _ _ _ _ e=>(World.putObj_heap_other (fun e2=>by subst e2;rw[h] at e;cases e;cases hc)).trans e⟩
theorem aS.cell(h:aS X W W'){a:Addr}{v:Value}(ha:¬ X a.block)(hv:W.cell? a=some v):W'.cell? a=some v:=by
 obtain⟨o,ho,hc⟩:=cells_of_cell hv
 cases o with
 | cells _ _ _=>rw[←hv];exact World.cell?_of_block ((h.same _ ha _ _ _ ho).trans ho.symm)
 | _=>cases hc
theorem aS.box(h:aS X W W'){b E:Nat}{c:Array Value}(hb:¬ X b)(hx:Box W b c E):Box W' b c E:=h.same b hb c E (0,0) hx
theorem aS.slice(h:aS X W W'){α:Type}{a:Option Addr}{n cap size:Nat}{enc:α→List Value}{xs:List α}(hs:ak W (.slice a n cap) size enc xs)(ha:0<xs.length→∀ ad,a=some ad→¬ X ad.block):ak W' (.slice a n cap) size enc xs:=by
 obtain⟨a',b,o,cap',hv,hl,hc,ha',hx⟩:=hs
 obtain⟨rfl,rfl,rfl⟩:=Value.slice.inj hv
 refine⟨a,b,o,cap,rfl,hl,hc,ha',fun i hi j u hu=>?_⟩
 rcases ha' with rfl | ⟨rfl,_⟩
 ·exact h.cell (a:=⟨b,o+i*size+j,none⟩) (ha (by omega) ⟨b,o,none⟩ rfl) (hx i hi j u hu)
 ·simp at hi
end
theorem Hr{X:Nat→Prop}{w:World}(W:World)(l:Nat)(o o':Obj)(_:w.heap.size≤l)(h:W.heap[l]?=some o)(hc:o.isCells=false)(_:o.isWalk=false):aS X W (W.putObj l o'):=aS.put h hc
theorem Fz{β:Type}{B:Nat}{J:β→World→Prop}(h:AbidesFrom B J){s:β}{W W':World}(hs:J s W)(hb:Below W.heap.size W W'):J s W' :=
 h s W W' none hs ⟨hb.os,hb.tape,hb.output,hb.size,fun k hk _=>hb.block k hk⟩ (fun r e=>by cases e)
theorem iF{β:Type}(B b E:Nat)(f:β→Array Value):OwnFrom B (fun(s:β) W=>Box W b (f s) E):=fun s W W' row hs hg hr=>by
 refine(hg.block b hs.lt fun e=>?_).trans hs
 obtain⟨_,o,ho,hc⟩:=hr b e.symm
 rw[show W.heap[b]?=_ from hs] at ho
 cases ho;cases hc
theorem Qi{β:Type}(B:Nat):OwnFrom B (fun(_:β) (_:World)=>False):=fun _ _ _ _ h _ _=>h
end
section
open Go.RowKit
theorem JF{α:Type}{w:World}{base E size:Nat}{enc:α→List Value}{v:Value}{xs:List α}{F:Fence}{n:Nat}{P:Program}{ops:Array Oper}{rest:List Oper}{o:Oper}{a:Act}{Q:Exit→Act→World→Prop}(hgd:o.guard=none)(s x:Operand)(t:TypeId)
  (ho:o.op=.call { callee:=.builtin .append,args:=#[s,x],argTypes:=#[t,t] }) {z:Value} {bytes:Nat} (hE:eu P t E z size bytes) (he:fD enc size)
  (hs:a.eval s=v) (hown:Own w base E size enc v xs) (ad:Addr) (c:Nat) (y:α) (hx:a.eval x=.slice (some ad) 1 c) (hnews:∀ j u,(enc y)[j]?=some u→w.cell? (ad.add j)=some u)
  (h63:xs.length+1≤maxLen) (hbytes:(xs.length+1)*bytes≤140737488355328) (hbase:base≤w.heap.size)
  (h:∀ a' cap' w',Own w' base E size enc (.slice a' (xs.length+1) cap') (xs++[y])→w.grownBy w' v.ownBlock→wpListIn F n P ops Q rest (a.put o.dst (.slice a' (xs.length+1) cap')) w'):wpListIn F n P ops Q (o::rest) a w:=by
 obtain⟨i,hi,hz,hsz,hby⟩:=hE.info
 refine wpListIn_append_own w hgd s x t ho base E i z size bytes hE.slice hi hz hsz hby hE.Hf hE.pos v xs.length (xs.flatMap enc) hs (hown.pz he) ad 1 c (enc y) hx (by rw[he.len,Nat.one_mul]) hnews (he.one y) h63 hbytes hbase ?_
 intro v' w' hr hg _
 have hr':Own w' base E size enc v' (xs++[y]):=by
  refine Own.ofRow ?_ he
  rw[List.length_append,List.flatMap_append]
  simpa using hr
 obtain⟨a',cap',rfl⟩:=hr'.form
 have e:(xs++[y]).length=xs.length+1:=by simp
 rw[e] at hr' ⊢
 exact h a' cap' w' hr' hg
theorem Own.block{α:Type}{w:World}{base E size:Nat}{enc:α→List Value}{v:Value}{xs:List α}(h:Own w base E size enc v xs)(g:Nat)(hg:v.ownBlock=some g):base≤g∧∃ cur,Box w g cur E:=by
 obtain⟨a,cap,rfl,_,_,hh⟩:=h
 rcases hh with⟨rfl,_⟩ | ⟨g',cur,rfl,hb,hg',_⟩
 ·simp[Value.ownBlock] at hg
 ·simp[Value.ownBlock] at hg;subst hg;exact⟨hb,cur,hg'⟩
theorem Cc{α β:Type}(B base E size:Nat)(enc:α→List Value)(v:β→Value)(xs:β→List α):OwnFrom B (fun(s:β) W=>Own W base E size enc (v s) (xs s)):=fun s W W' row hs hg hr=>by
 obtain⟨a,cap,hv,hle,hm,hh⟩:=hs
 refine⟨a,cap,hv,hle,hm,?_⟩
 rcases hh with hh | ⟨g,cur,ha,hb,hg',hc⟩
 ·exact .inl hh
 ·exact .inr ⟨g,cur,ha,hb,iF B g E (fun _:Unit=>cur) () W W' row hg' hg hr,hc⟩
theorem aS.grown{α:Type}{X:Nat→Prop}{w w':World}{base E size:Nat}{enc:α→List Value}{v:Value}{xs:List α}(h:Own w base E size enc v xs)(hg:w.grownBy w' v.ownBlock)(hX:∀ b,base≤b→X b):aS X w w' :=
 ⟨hg.size,fun b hb _ _ _ e=>(hg.block b (Array.getElem?_eq_some_iff.1 e).1 fun e2=>hb (hX b (h.block b e2.symm).1)).trans e⟩
theorem KeepsOthers.JG{α:Type}{w w':World}{base E size:Nat}{enc:α→List Value}{v:Value}{xs:List α}(h:Own w base E size enc v xs)(hg:w.grownBy w' v.ownBlock):KeepsOthers w w' :=
 KeepsOthers.of_grownBy hg fun j o e ho=>by
  obtain⟨_,cur,hb⟩:=h.block j e
  rw[show w.heap[j]?=_ from hb] at ho
  cases ho;rfl
end
section
open Go.RowKit
theorem ru{P:Program}{w:World}{base t ty e size bytes n m c:Nat}{i:TypeInfo}{z v:Value}{xs news:List Value}{a:Addr}(ht:P.underlying t=some (.slice e))(hi:P.info? e=some i)(hz:i.zero=some z)
  (hsize:i.size=size) (hby:i.bytes=bytes) (hown:w.ownsRow base e size v n xs) (hl:news.length=m*size) (hnews:∀ j u,news[j]?=some u→w.cell? (a.add j)=some u) (h1:∀ u∈news,u.oneCell'=true) (hm:0<m)
  (h63:n+m≤maxLen) (hbytes:(n+m)*bytes≤140737488355328) {v':Value} {w':World} (hr:(Builtin.append_ #[t,t] ty #[v,.slice (some a) m c]).run P w=.ok v' w') :
  v'.ownBlock=v.ownBlock∨v'.ownBlock=some w.heap.size:=by
 subst hsize
 subst hby
 have hsm:n+m≤9223372036854775807:=h63
 rcases hown.2 with⟨rfl,rfl⟩ | ⟨g,cap,cur,rfl,hbg,hg,hnc,hcm,hcs,htake⟩
 ·rw[run_append_nil (P:=P) w t ty e i z ht hi hz a m c news hl hnews hm (by omega) (by rw[Nat.zero_add] at hbytes;omega)] at hr
  cases hr
  exact .inr rfl
 ·by_cases hroom:n+m≤cap
  ·rw[run_append_room (P:=P) w t ty e i ht hi g n cap cur hg a m c news hl hnews h1 hroom (by rw[hl,hcs,←Nat.add_mul];exact Nat.mul_le_mul_right _ hroom)] at hr
   cases hr
   exact .inl rfl
  ·have hx:xs.length=n*i.size:=hown.1
   rw[run_append_grow (P:=P) w t ty e i z ht hi hz ⟨g,0,none⟩ n cap xs hx (hown.cells (g:=g) rfl) a m c news hl hnews (by omega) (by omega) (growslice_fits (by omega) hbytes)] at hr
   cases hr
   exact .inr rfl
theorem nN{α:Type}{w:World}{base E size:Nat}{enc:α→List Value}{v:Value}{xs:List α}{P:Program}{o:Oper}{a:Act}{K:Act→World→Prop}{Q:Exit→Act→World→Prop}(s x:Operand)(t:TypeId)
  (ho:o.op=.call { callee:=.builtin .append,args:=#[s,x],argTypes:=#[t,t] }) {z:Value} {bytes:Nat} (hE:eu P t E z size bytes) (he:fD enc size)
  (hs:a.eval s=v) (hown:Own w base E size enc v xs) (ad:Addr) (c:Nat) (y:α) (hx:a.eval x=.slice (some ad) 1 c) (hnews:∀ j u,(enc y)[j]?=some u→w.cell? (ad.add j)=some u)
  (h63:xs.length+1≤maxLen) (hbytes:(xs.length+1)*bytes≤140737488355328) (hbase:base≤w.heap.size)
  (h:∀ a' cap' w',Own w' base E size enc (.slice a' (xs.length+1) cap') (xs++[y])→w.grownBy w' v.ownBlock→((Value.slice a' (xs.length+1) cap').ownBlock=v.ownBlock∨(Value.slice a' (xs.length+1) cap').ownBlock=some w.heap.size)→K (a.put o.dst (.slice a' (xs.length+1) cap')) w'):Oper.wp P o a w K Q:=by
 obtain⟨i,hi,hz,hsz,hby⟩:=hE.info
 obtain⟨v',w',hr,h2,h3,_⟩:=run_append_own (P:=P) w base t o.type E i z size bytes hE.slice hi hz hsz hby hE.Hf hE.pos v xs.length (xs.flatMap enc) (hown.pz he) ad 1 c (enc y) (by rw[he.len,Nat.one_mul]) hnews (he.one y) h63 hbytes hbase
 have hb:=ru (c:=c) hE.slice hi hz hsz hby (hown.pz he) (by rw[he.len,Nat.one_mul]) hnews (he.one y) (Nat.succ_pos 0) h63 hbytes hr
 have hr':Own w' base E size enc v' (xs++[y]):=by
  refine Own.ofRow ?_ he
  rw[List.length_append,List.flatMap_append]
  simpa using h2
 obtain⟨a',cap',rfl⟩:=hr'.form
 have e:(xs++[y]).length=xs.length+1:=by simp
 rw[e] at hr' hb hr
 have hk:=h a' cap' w' hr' h3 hb
 unfold Oper.wp execOp
 simp only[ho,resolve,invoke,builtin,Sem.run_bind,Sem.run_pure,Result.andThen_ok,List.map_toArray,List.map_cons,List.map_nil,hs,hx,hr]
 exact hk
theorem dB{α:Type}{w:World}{base E size:Nat}{enc:α→List Value}{v:Value}{xs:List α}{P:Program}{ops:Array Oper}{rest:List Oper}{o:Oper}{a:Act}{Q:Exit→Act→World→Prop}(hgd:o.guard=none)(s x:Operand)(t:TypeId)
  (ho:o.op=.call { callee:=.builtin .append,args:=#[s,x],argTypes:=#[t,t] }) {z:Value} {bytes:Nat} (hE:eu P t E z size bytes) (he:fD enc size)
  (hs:a.eval s=v) (hown:Own w base E size enc v xs) (ad:Addr) (c:Nat) (y:α) (hx:a.eval x=.slice (some ad) 1 c) (hnews:∀ j u,(enc y)[j]?=some u→w.cell? (ad.add j)=some u)
  (h63:xs.length+1≤maxLen) (hbytes:(xs.length+1)*bytes≤140737488355328) (hbase:base≤w.heap.size)
  (h:∀ a' cap' w',Own w' base E size enc (.slice a' (xs.length+1) cap') (xs++[y])→w.grownBy w' v.ownBlock→((Value.slice a' (xs.length+1) cap').ownBlock=v.ownBlock∨(Value.slice a' (xs.length+1) cap').ownBlock=some w.heap.size)→wpList P ops Q rest (a.put o.dst (.slice a' (xs.length+1) cap')) w'):wpList P ops Q (o::rest) a w :=
 wpList_plain hgd fun _ hK=>nN s x t ho hE he hs hown ad c y hx hnews h63 hbytes hbase fun a' cap' w' h2 h3 h4=>hK _ _ (h a' cap' w' h2 h3 h4)
theorem Own.Ht{α:Type}{w w':World}{base E size:Nat}{enc:α→List Value}{v:Value}{xs:List α}{row:Option Nat}(h:Own w base E size enc v xs)(hg:w.grownBy w' row)(hne:∀ k,v.ownBlock=some k→row≠some k):Own w' base E size enc v xs:=by
 obtain⟨a,cap,rfl,hle,hm,hh⟩:=h
 refine⟨a,cap,rfl,hle,hm,?_⟩
 rcases hh with hh | ⟨g,cur,rfl,hbg,hb,hr⟩
 ·exact .inl hh
 ·exact .inr ⟨g,cur,rfl,hbg,(hg.block g hb.lt (fun e=>hne g rfl e.symm)).trans hb,hr⟩
theorem Own.iL{α β:Type}{w w':World}{base akS E E2 size size2:Nat}{enc:α→List Value}{enc2:β→List Value}{v v2:Value}{xs:List α}{ys:List β}(h:Own w base E size enc v xs)(h2:Own w akS E2 size2 enc2 v2 ys)(hg:w.grownBy w' v2.ownBlock)(hE:E≠E2):Own w' base E size enc v xs :=
 h.Ht hg fun k h1 h3=>by
  obtain⟨_,c1,b1⟩:=h.block k h1
  obtain⟨_,c2,b2⟩:=h2.block k h3
  exact hE (b1.kK b2)
end
section
open Go.RowKit
abbrev jf(k:Int):Value:=.int .i64 k
def valOf(kl:List (Int×Value))(s:Nat):Value:=(look (s:Int) kl).getD (.slice none 0 0)
structure fK{α:Type}(w:World)(mb base E size:Nat)(enc:α→List Value)(grp:Nat→List α)(kl:List (Int×Value)):Prop where
 mp:aK w mb jf kl
 own:∀ s,Own w base E size enc (valOf kl s) (grp s)
 lM:∀ s t,s≠t→∀ g,(valOf kl s).ownBlock=some g→(valOf kl t).ownBlock≠some g
 lt:mb<base
structure dM(base mb:Nat)(w w':World):Prop where
 os:w'.os=w.os
 tape:w'.tape=w.tape
 output:w'.output=w.output
 size:w.heap.size≤w'.heap.size
 block:∀ b,b<base→b≠mb→w'.heap[b]?=w.heap[b]?
section
variable {α:Type} {w w' w'':World} {mb base E size:Nat} {enc:α→List Value} {grp:Nat→List α} {kl:List (Int×Value)}
theorem dM.below(h:Below w.heap.size w w')(hb:base≤w.heap.size):dM base mb w w':=⟨h.os,h.tape,h.output,h.size,fun b hb' _=>h.block b (by omega)⟩
theorem dM.refl(base mb:Nat)(w:World):dM base mb w w:=⟨rfl,rfl,rfl,Nat.le_refl _,fun _ _ _=>rfl⟩
theorem dM.trans(h:dM base mb w w')(k:dM base mb w' w''):dM base mb w w'' :=
 ⟨k.os.trans h.os,k.tape.trans h.tape,k.output.trans h.output,Nat.le_trans h.size k.size,fun b hb hn=>(k.block b hb hn).trans (h.block b hb hn)⟩
theorem dM.box(h:dM base mb w w'){b T:Nat}{c:Array Value}(hx:Box w b c T)(hb:b<base)(hn:b≠mb):Box w' b c T:=(h.block b hb hn).trans hx
theorem dM.map(h:dM base mb w w'){b:Nat}{kl:List (Int×Value)}(hx:aK w b jf kl)(hb:b<base)(hn:b≠mb):aK w' b jf kl:=hx.same (h.block b hb hn)
theorem dM.toBelow{w0:World}(h:dM base mb w w')(hb:Below w0.heap.size w0 w)(h1:w0.heap.size≤base)(h2:w0.heap.size≤mb):Below w0.heap.size w0 w' :=
 ⟨h.os.trans hb.os,h.tape.trans hb.tape,h.output.trans hb.output,Nat.le_trans hb.size h.size,fun b hb'=>(h.block b (by omega) (by omega)).trans (hb.block b hb')⟩
theorem dM.grown{v:Value}{xs:List α}(h:dM base mb w w')(hown:Own w' base E size enc v xs)(hg:w'.grownBy w'' v.ownBlock)(hb:base≤w'.heap.size):dM base mb w w'' :=
 h.trans ⟨hg.os,hg.tape,hg.output,hg.size,fun b hb' _=>hg.block b (by omega) (by
  obtain⟨a,cap,rfl,_,_,hh⟩:=hown
  rcases hh with⟨rfl,_⟩ | ⟨g,cur,rfl,hbg,_⟩
  ·simp[Value.ownBlock]
  ·simp[Value.ownBlock];omega)⟩
theorem dM.put(h:dM base mb w w')(ho:∀ i,i≠mb→w''.heap[i]?=w'.heap[i]?)(hs:w''.heap.size=w'.heap.size)(hB:∀ B,B≤mb→Below B w' w''):dM base mb w w'' :=
 h.trans ⟨(hB 0 (Nat.zero_le _)).os,(hB 0 (Nat.zero_le _)).tape,(hB 0 (Nat.zero_le _)).output,Nat.le_of_eq hs.symm,fun b _ hn=>ho b hn⟩
theorem fK.kept(h:fK w mb base E size enc grp kl)(hb:Below w.heap.size w w'):fK w' mb base E size enc grp kl:=⟨h.mp.kept hb,fun s=>(h.own s).kept hb,h.lM,h.lt⟩
theorem fK.new(w:World)(mb base E size:Nat)(enc:α→List Value)(hm:aK w mb jf [])(hb:mb<base):fK w mb base E size enc (fun _=>[]) [] :=
 ⟨hm,fun s=>Own.nil _ _ _ _ _,fun s t _ g hg=>by simp[valOf,look,Value.ownBlock] at hg,hb⟩
theorem Own.same{v:Value}{xs:List α}(h:Own w base E size enc v xs)(hb:∀ g,v.ownBlock=some g→w'.heap[g]?=w.heap[g]?):Own w' base E size enc v xs:=by
 obtain⟨a,cap,hv,hle,hm,hh⟩:=h
 refine⟨a,cap,hv,hle,hm,?_⟩
 rcases hh with hh | ⟨g,cur,ha,hbg,hg,hr⟩
 ·exact .inl hh
 ·refine .inr ⟨g,cur,ha,hbg,(hb g ?_).trans hg,hr⟩
  rw[hv,ha];rfl
theorem Own.blk{v:Value}{xs:List α}(h:Own w base E size enc v xs){g:Nat}(hg:v.ownBlock=some g):base≤g∧g<w.heap.size:=by
 obtain⟨a,cap,rfl,_,_,hh⟩:=h
 rcases hh with⟨rfl,_⟩ | ⟨g',cur,rfl,hbg,hx,_⟩
 ·cases hg
 ·cases hg;exact⟨hbg,hx.lt⟩
theorem fK.put(h:fK w mb base E size enc grp kl)(s:Nat)(y:α){v':Value}(ho:Own w' base E size enc v' (grp s++[y]))(hg:w.grownBy w' (valOf kl s).ownBlock)(hf:v'.ownBlock=(valOf kl s).ownBlock∨v'.ownBlock=some w.heap.size)
  (hm:aK w'' mb jf (mD (s:Int) v' kl)) (hs:∀ i,i≠mb→w''.heap[i]?=w'.heap[i]?):fK w'' mb base E size enc (fun t=>if t=s then grp s++[y] else grp t) (mD (s:Int) v' kl):=by
 have hv:∀ t,valOf (mD (s:Int) v' kl) t=if t=s then v' else valOf kl t:=fun t=>by
  unfold valOf
  rw[DN]
  by_cases e:t=s
  ·rw[if_pos (by omega),if_pos e];rfl
  ·rw[if_neg (by omega),if_neg e]
 have hlt:=h.lt
 refine⟨hm,fun t=>?_,fun t u hne g hg1 hg2=>?_,h.lt⟩
 ·rw[hv]
  by_cases e:t=s
  ·rw[if_pos e,if_pos e]
   exact ho.same fun g hgg=>hs g (by have:=(ho.blk hgg).1;omega)
  ·rw[if_neg e,if_neg e]
   have h1:=h.own t
   have h2:Own w' base E size enc (valOf kl t) (grp t):=h1.same fun g hgg=>hg.block g (h1.blk hgg).2 fun e2=>h.lM t s e g hgg e2.symm
   exact h2.same fun g hgg=>hs g (by have:=(h2.blk hgg).1;omega)
 ·rw[hv] at hg1 hg2
  have fresh:∀ t,t≠s→∀ g,v'.ownBlock=some g→(valOf kl t).ownBlock≠some g:=fun t ht g h1 h2=>by
   rcases hf with e | e
   ·exact h.lM t s ht g h2 (e▸h1)
   ·rw[e] at h1
    cases h1
    have:=((h.own t).blk h2).2
    omega
  by_cases e1:t=s
  ·rw[if_pos e1] at hg1
   rw[if_neg (fun e=>hne (e1.trans e.symm))] at hg2
   exact fresh u (fun e=>hne (e1.trans e.symm)) g hg1 hg2
  ·rw[if_neg e1] at hg1
   by_cases e2:u=s
   ·rw[if_pos e2] at hg2
    exact fresh t e1 g hg2 hg1
   ·rw[if_neg e2] at hg2
    exact h.lM t u hne g hg1 hg2
theorem fK.others{β:Type}{mb' E' size':Nat}{enc':β→List Value}{v:Value}{xs:List β}(h:fK w mb base E size enc grp kl)(hown:Own w base E' size' enc' v xs)(hg:w.grownBy w' v.ownBlock)(hne:E'≠E)(hs:∀ i,i≠mb'→w''.heap[i]?=w'.heap[i]?)(hmb:mb'<base)(hmm:mb≠mb') :
  fK w'' mb base E size enc grp kl:=by
 have hvb:∀ g,v.ownBlock=some g→base≤g:=fun g hgg=>(hown.blk hgg).1
 refine⟨h.mp.same ((hs mb hmm).trans (hg.block mb h.mp.lt fun e=>by have:=hvb _ e.symm;have:=h.lt;omega)),fun s=>?_,h.lM,h.lt⟩
 have h1:=(h.own s).iL hown hg hne.symm
 exact h1.same fun g hgg=>hs g (by have:=(h1.blk hgg).1;omega)
end
end
section
open Go.RowKit
theorem XO{α:Type}{P:Program}{w:World}{base E size:Nat}{enc:α→List Value}{v:Value}{xs:List α}{t ty:TypeId}{z:Value}{bytes:Nat}(hE:eu P t E z size bytes)(he:fD enc size)
  (hown:Own w base E size enc v xs) (ad:Addr) (c:Nat) (y:α) (hnews:∀ j u,(enc y)[j]?=some u→w.cell? (ad.add j)=some u)
  (h63:xs.length+1≤maxLen) (hbytes:(xs.length+1)*bytes≤140737488355328) {v':Value} {w':World} (hr:(Builtin.append_ #[t,t] ty #[v,.slice (some ad) 1 c]).run P w=.ok v' w'):Own w' base E size enc v xs:=by
 obtain⟨i,hi,hz,hsz,hby⟩:=hE.info
 subst hsz
 have hl:(enc y).length=1*i.size:=by rw[he.len,Nat.one_mul]
 have hsmall:xs.length+1≤9223372036854775807:=by simp only[maxLen] at h63;omega
 have hown0:=hown
 obtain⟨a,cap,rfl,hle,hm,hh⟩:=hown
 rcases hh with⟨rfl,rfl⟩ | ⟨g,cur,rfl,hbg,hg,hcs,hx⟩
 ·have hn:xs.length=0:=by omega
  rw[hn] at hr
  rw[run_append_nil (P:=P) w t ty E i z hE.slice hi hz ad 1 c (enc y) hl hnews (by omega) (by omega) (by rw[hby];rw[hn] at hbytes;omega)] at hr
  cases hr
  exact hown0.kept ((Below.refl _ w).drew.alloc (Nat.le_refl _) _)
 ·by_cases hroom:xs.length+1≤cap
  ·have hfit:xs.length*i.size+(enc y).length≤cur.size:=by rw[hl,hcs,←Nat.add_mul];exact Nat.mul_le_mul_right _ hroom
   rw[run_append_room (P:=P) w t ty E i hE.slice hi g xs.length cap cur hg ad 1 c (enc y) hl hnews (he.one y) hroom hfit] at hr
   cases hr
   refine⟨_,cap,rfl,hle,hm,.inr ⟨g,_,rfl,hbg,setRow_heap w g cur _ E _ hg,?_,fun j hj k hk=>?_⟩⟩
   ·simp only[List.size_toArray,List.length_append,List.length_take,List.length_drop,Array.length_toList]
    omega
   ·have h1:j*i.size+k<xs.length*i.size:=by
     have:(j+1)*i.size≤xs.length*i.size:=Nat.mul_le_mul_right _ hj
     rw[Nat.succ_mul] at this;omega
    have h2:xs.length*i.size≤cur.size:=by omega
    have hlen:(cur.toList.take (xs.length*i.size)).length=xs.length*i.size:=by rw[List.length_take,Array.length_toList];exact Nat.min_eq_left h2
    rw[←hx j hj k hk,List.getElem?_toArray,List.append_assoc,List.getElem?_append_left (by rw[hlen];exact h1),List.getElem?_take,if_pos h1,Array.getElem?_toList]
  ·have holds:=(hown0.pz he).cells (g:=g) rfl
   rw[run_append_grow (P:=P) w t ty E i z hE.slice hi hz ⟨g,0,none⟩ xs.length cap (xs.flatMap enc) (by rw[sJ he.len]) holds ad 1 c (enc y) hl hnews (by omega) (by omega) (growslice_fits (by omega) (by rw[hby];exact hbytes))] at hr
   cases hr
   exact hown0.kept ((Below.refl _ w).drew.alloc (Nat.le_refl _) _)
theorem U8{α:Type}{P:Program}{w:World}{base E size:Nat}{enc:α→List Value}{v v2:Value}{xs:List α}{t ty:TypeId}{z:Value}{bytes:Nat}(hE:eu P t E z size bytes)(he:fD enc size)
  (hown:Own w base E size enc v xs) (ad:Addr) (c:Nat) (y:α) (hown2:Own w base E size enc v2 (xs++[y])) (hnews:∀ j u,(enc y)[j]?=some u→w.cell? (ad.add j)=some u)
  (h63:xs.length+1≤maxLen) (hbytes:(xs.length+1)*bytes≤140737488355328) {v':Value} {w':World} (hr:(Builtin.append_ #[t,t] ty #[v,.slice (some ad) 1 c]).run P w=.ok v' w'):Own w' base E size enc v2 (xs++[y]):=by
 obtain⟨i,hi,hz,hsz,hby⟩:=hE.info
 subst hsz
 have hl:(enc y).length=1*i.size:=by rw[he.len,Nat.one_mul]
 have hsmall:xs.length+1≤9223372036854775807:=by simp only[maxLen] at h63;omega
 have hown0:=hown
 obtain⟨a,cap,rfl,hle,hm,hh⟩:=hown
 rcases hh with⟨rfl,rfl⟩ | ⟨g,cur,rfl,hbg,hg,hcs,hx⟩
 ·have hn:xs.length=0:=by omega
  rw[hn] at hr
  rw[run_append_nil (P:=P) w t ty E i z hE.slice hi hz ad 1 c (enc y) hl hnews (by omega) (by omega) (by rw[hby];rw[hn] at hbytes;omega)] at hr
  cases hr
  exact hown2.kept ((Below.refl _ w).drew.alloc (Nat.le_refl _) _)
 ·by_cases hroom:xs.length+1≤cap
  ·have hfit:xs.length*i.size+(enc y).length≤cur.size:=by rw[hl,hcs,←Nat.add_mul];exact Nat.mul_le_mul_right _ hroom
   rw[run_append_room (P:=P) w t ty E i hE.slice hi g xs.length cap cur hg ad 1 c (enc y) hl hnews (he.one y) hroom hfit] at hr
   cases hr
   obtain⟨a2,cap2,rfl,hle2,hm2,hh2⟩:=hown2
   refine⟨a2,cap2,rfl,hle2,hm2,?_⟩
   rcases hh2 with hh2 | ⟨g2,Rj,ha2,ahs,hg2,hcs2,hx2⟩
   ·exact .inl hh2
   ·by_cases hgg:g2=g
    ·subst hgg
     have hcc:Rj=cur:=by have h1:w.heap[g2]?=_:=hg2;have h2:w.heap[g2]?=_:=hg;rw[h1] at h2;simpa using h2
     subst hcc
     refine .inr ⟨g2,_,ha2,ahs,setRow_heap w g2 Rj _ E _ hg2,?_,fun j hj k hk=>?_⟩
     ·simp only[List.size_toArray,List.length_append,List.length_take,List.length_drop,Array.length_toList]
      omega
     ·have h2:xs.length*i.size≤Rj.size:=by omega
      have hlen:(Rj.toList.take (xs.length*i.size)).length=xs.length*i.size:=by rw[List.length_take,Array.length_toList];exact Nat.min_eq_left h2
      rw[List.length_append,List.length_singleton] at hj
      rw[List.getElem?_toArray,List.append_assoc]
      by_cases hjn:j<xs.length
      ·have h1:j*i.size+k<xs.length*i.size:=by
        have:(j+1)*i.size≤xs.length*i.size:=Nat.mul_le_mul_right _ hjn
        rw[Nat.succ_mul] at this;omega
       rw[←hx2 j (by rw[List.length_append,List.length_singleton];omega) k hk,List.getElem?_append_left (by rw[hlen];exact h1),List.getElem?_take,if_pos h1,Array.getElem?_toList]
      ·obtain rfl:j=xs.length:=by omega
       rw[List.getElem?_append_right (by rw[hlen];omega),hlen,List.getElem?_append_left (by rw[hl];omega)]
       rw[show xs.length*i.size+k - xs.length*i.size=k by omega]
       congr 2
       simp
    ·exact .inr ⟨g2,Rj,ha2,ahs,(setRow_other w g g2 _ hgg).trans hg2,hcs2,hx2⟩
  ·have holds:=(hown0.pz he).cells (g:=g) rfl
   rw[run_append_grow (P:=P) w t ty E i z hE.slice hi hz ⟨g,0,none⟩ xs.length cap (xs.flatMap enc) (by rw[sJ he.len]) holds ad 1 c (enc y) hl hnews (by omega) (by omega) (growslice_fits (by omega) (by rw[hby];exact hbytes))] at hr
   cases hr
   exact hown2.kept ((Below.refl _ w).drew.alloc (Nat.le_refl _) _)
structure iH{α:Type}(base E size:Nat)(enc:α→List Value)(v:Value)(xs:List α)(y:α)(w w':World):Prop where
 os:w'.os=w.os
 tape:w'.tape=w.tape
 output:w'.output=w.output
 grow:w.heap.size≤w'.heap.size
 block:∀ b,b<w.heap.size→v.ownBlock≠some b→w'.heap[b]?=w.heap[b]?
 own:Own w base E size enc v xs→Own w' base E size enc v xs
 JH:∀ v2,Own w base E size enc v2 (xs++[y])→Own w' base E size enc v2 (xs++[y])
instance iC {α:Type} (base E size:Nat) (enc:α→List Value) (v:Value) (xs:List α) (y:α):jv (iH base E size enc v xs y) :=
 ⟨fun _=>⟨rfl,rfl,rfl,Nat.le_refl _,fun _ _ _=>rfl,id,fun _=>id⟩,
  fun _ _ _ h k=>⟨k.os.trans h.os,k.tape.trans h.tape,k.output.trans h.output,Nat.le_trans h.grow k.grow,fun b hb hn=>(k.block b (Nat.lt_of_lt_of_le hb h.grow) hn).trans (h.block b hb hn),fun ho=>k.own (h.own ho),fun v2 ho=>k.JH v2 (h.JH v2 ho)⟩,
  fun _ _ h=>⟨h.os,h.tape,h.output,h.size,fun b hb _=>h.block b hb,fun ho=>ho.kept h,fun _ ho=>ho.kept h⟩⟩
theorem Ce{α:Type}{w:World}{base E size:Nat}{enc:α→List Value}{v:Value}{xs:List α}{P:Program}{o:Oper}{a:Act}{K:Act→World→Prop}{Q:Exit→Act→World→Prop}(s x:Operand)(t:TypeId)
  (ho:o.op=.call { callee:=.builtin .append,args:=#[s,x],argTypes:=#[t,t] }) {z:Value} {bytes:Nat} (hE:eu P t E z size bytes) (he:fD enc size)
  (hs:a.eval s=v) (hown:Own w base E size enc v xs) (ad:Addr) (c:Nat) (y:α) (hx:a.eval x=.slice (some ad) 1 c) (hnews:∀ j u,(enc y)[j]?=some u→w.cell? (ad.add j)=some u)
  (h63:xs.length+1≤maxLen) (hbytes:(xs.length+1)*bytes≤140737488355328) (hbase:base≤w.heap.size)
  (h:∀ a' cap' w',Own w' base E size enc (.slice a' (xs.length+1) cap') (xs++[y])→w.grownBy w' v.ownBlock→((Value.slice a' (xs.length+1) cap').ownBlock=v.ownBlock∨(Value.slice a' (xs.length+1) cap').ownBlock=some w.heap.size)→iH base E size enc v xs y w w'→K (a.put o.dst (.slice a' (xs.length+1) cap')) w'):Oper.wp P o a w K Q:=by
 obtain⟨i,hi,hz,hsz,hby⟩:=hE.info
 obtain⟨v',w',hr,h2,h3,_⟩:=run_append_own (P:=P) w base t o.type E i z size bytes hE.slice hi hz hsz hby hE.Hf hE.pos v xs.length (xs.flatMap enc) (hown.pz he) ad 1 c (enc y) (by rw[he.len,Nat.one_mul]) hnews (he.one y) h63 hbytes hbase
 have hb:=ru (c:=c) hE.slice hi hz hsz hby (hown.pz he) (by rw[he.len,Nat.one_mul]) hnews (he.one y) (Nat.succ_pos 0) h63 hbytes hr
 have hold:=XO hE he hown ad c y hnews h63 hbytes hr
 have akT:=fun v2 ho2=>U8 (v2:=v2) hE he hown ad c y ho2 hnews h63 hbytes hr
 have hr':Own w' base E size enc v' (xs++[y]):=by
  refine Own.ofRow ?_ he
  rw[List.length_append,List.flatMap_append]
  simpa using h2
 obtain⟨a',cap',rfl⟩:=hr'.form
 have e:(xs++[y]).length=xs.length+1:=by simp
 rw[e] at hr' hb hr
 have hk:=h a' cap' w' hr' h3 hb ⟨h3.os,h3.tape,h3.output,h3.size,fun b hb hn=>h3.block b hb fun e=>hn e.symm,fun _=>hold,akT⟩
 unfold Oper.wp execOp
 simp only[ho,resolve,invoke,builtin,Sem.run_bind,Sem.run_pure,Result.andThen_ok,List.map_toArray,List.map_cons,List.map_nil,hs,hx,hr]
 exact hk
section
variable {α:Type} {base E size:Nat} {enc:α→List Value} {v:Value} {xs:List α} {y:α} {w w':World}
theorem iH.box(h:iH base E size enc v xs y w w'){b T:Nat}{c:Array Value}(hx:Box w b c T)(hn:v.ownBlock≠some b):Box w' b c T:=(h.block b hx.lt hn).trans hx
theorem iH.map(h:iH base E size enc v xs y w w'){b:Nat}{kl:List (Int×Value)}(hx:aK w b jf kl)(hn:v.ownBlock≠some b):aK w' b jf kl:=hx.same (h.block b hx.lt hn)
theorem fK.Ba{mb:Nat}{grp:Nat→List α}{kl:List (Int×Value)}{s:Nat}(h:fK w mb base E size enc grp kl)(k:iH base E size enc (valOf kl s) (grp s) y w w'):fK w' mb base E size enc grp kl:=by
 have hlt:=h.lt
 refine⟨k.map h.mp fun e=>by have:=((h.own s).blk e).1;omega,fun t=>?_,h.lM,h.lt⟩
 by_cases e:t=s
 ·subst e;exact k.own (h.own t)
 ·exact(h.own t).same fun g hg=>k.block g ((h.own t).blk hg).2 fun e2=>h.lM t s e g hg e2
theorem iH.afb{mb:Nat}{w0:World}{grp:Nat→List α}{kl:List (Int×Value)}{s:Nat}(k:iH base E size enc (valOf kl s) (grp s) y w w')(h0:fK w0 mb base E size enc grp kl)(hb:base≤w.heap.size):dM base mb w w' :=
 ⟨k.os,k.tape,k.output,k.grow,fun b hb' _=>k.block b (by omega) fun e=>by have:=((h0.own s).blk e).1;omega⟩
theorem iH.grownBy(k:iH base E size enc v xs y w w'):w.grownBy w' v.ownBlock:=⟨k.os,k.tape,k.output,k.grow,fun b hb hn=>k.block b hb fun e=>hn e.symm⟩
theorem fK.afc{β:Type}{mb E' size':Nat}{enc':β→List Value}{grp:Nat→List β}{kl:List (Int×Value)}(h:fK w mb base E' size' enc' grp kl)(ho:Own w base E size enc v xs)(k:iH base E size enc v xs y w w')(hne:E'≠E):fK w' mb base E' size' enc' grp kl:=by
 have hlt:=h.lt
 refine⟨k.map h.mp fun e=>by have:=(ho.blk e).1;omega,fun t=>?_,h.lM,h.lt⟩
 refine(h.own t).same fun g hg=>k.block g ((h.own t).blk hg).2 fun e2=>?_
 obtain⟨_,c1,b1⟩:=(h.own t).block g hg
 obtain⟨_,c2,b2⟩:=ho.block g e2
 exact hne (b1.kK b2)
theorem fK.agv{β:Type}{mb mb' E' size':Nat}{enc':β→List Value}{grp:Nat→List β}{kl:List (Int×Value)}(h:fK w mb base E' size' enc' grp kl)(ho:∀ i,i≠mb'→w'.heap[i]?=w.heap[i]?)(hb:mb'<base)(hne:mb≠mb'):fK w' mb base E' size' enc' grp kl :=
 ⟨h.mp.same (ho mb hne),fun t=>(h.own t).same fun g hg=>ho g (by have:=((h.own t).blk hg).1;omega),h.lM,h.lt⟩
theorem fK.CZ{mb:Nat}{w0:World}{grp:Nat→List α}{kl:List (Int×Value)}{s:Nat}{v':Value}(h0:fK w0 mb base E size enc grp kl)(h:fK w mb base E size enc (fun t=>if t=s then grp s++[y] else grp t) (mD (s:Int) v' kl))(k:iH base E size enc (valOf kl s) (grp s) y w w') :
  fK w' mb base E size enc (fun t=>if t=s then grp s++[y] else grp t) (mD (s:Int) v' kl):=by
 have hlt:=h0.lt
 refine⟨k.map h.mp fun e=>by have:=((h0.own s).blk e).1;omega,fun t=>?_,h.lM,h.lt⟩
 by_cases e:t=s
 ·have h1:=h.own t
  rw[if_pos e] at h1 ⊢
  exact k.JH _ h1
 ·have h1:=h.own t
  refine h1.same fun g hg=>k.block g (h1.blk hg).2 fun e2=>?_
  have hv:valOf (mD (s:Int) v' kl) t=valOf kl t:=by unfold valOf;rw[DN,if_neg (by omega)]
  rw[hv] at hg
  exact h0.lM t s e g hg e2
end
end
section
open Go.RowKit
structure lW{α:Type}(w:World)(base E size:Nat)(enc:α→List Value)(grp:Nat→List α)(vs:Nat→Value):Prop where
 own:∀ s,Own w base E size enc (vs s) (grp s)
 lM:∀ s t,s≠t→∀ g,(vs s).ownBlock=some g→(vs t).ownBlock≠some g
def kF{β:Type}(f:Nat→β)(s:Nat)(v:β)(t:Nat):β:=if t=s then v else f t
theorem lN{β:Type}(f:Nat→β)(s:Nat)(v:β):kF f s v s=v:=if_pos rfl
theorem kN{β:Type}(f:Nat→β){s t:Nat}(v:β)(h:t≠s):kF f s v t=f t:=if_neg h
section
variable {α:Type} {w w' w'':World} {base E size:Nat} {enc:α→List Value} {grp:Nat→List α} {vs:Nat→Value}
theorem lW.new(w:World)(base E size:Nat)(enc:α→List Value):lW w base E size enc (fun _=>[]) (fun _=>.slice none 0 0) :=
 ⟨fun _=>Own.nil _ _ _ _ _,fun _ _ _ g hg=>by cases hg⟩
theorem lW.same(h:lW w base E size enc grp vs)(hb:∀ b,base≤b→b<w.heap.size→w'.heap[b]?=w.heap[b]?):lW w' base E size enc grp vs :=
 ⟨fun s=>(h.own s).same fun g hg=>hb g ((h.own s).blk hg).1 ((h.own s).blk hg).2,h.lM⟩
theorem lW.kept(h:lW w base E size enc grp vs)(hb:Below w.heap.size w w'):lW w' base E size enc grp vs:=h.same fun b _ hl=>hb.block b hl
theorem lW.put(h:lW w base E size enc grp vs)(s:Nat)(y:α){v':Value}(ho:Own w' base E size enc v' (grp s++[y]))(hg:w.grownBy w' (vs s).ownBlock)(hf:v'.ownBlock=(vs s).ownBlock∨v'.ownBlock=some w.heap.size) :
  lW w' base E size enc (kF grp s (grp s++[y])) (kF vs s v'):=by
 have fresh:∀ t,t≠s→∀ g,v'.ownBlock=some g→(vs t).ownBlock≠some g:=fun t ht g h1 h2=>by
  rcases hf with e | e
  ·exact h.lM t s ht g h2 (e▸h1)
  ·rw[e] at h1
   cases h1
   have:=((h.own t).blk h2).2
   omega
 refine⟨fun t=>?_,fun t u hne g hg1 hg2=>?_⟩
 ·by_cases e:t=s
  ·subst e;rw[lN,lN];exact ho
  ·rw[kN _ _ e,kN _ _ e]
   have h1:=h.own t
   exact h1.same fun g hgg=>hg.block g (h1.blk hgg).2 fun e2=>h.lM t s e g hgg e2.symm
 ·by_cases e1:t=s
  ·subst e1
   rw[lN] at hg1
   rw[kN _ _ (fun e=>hne e.symm)] at hg2
   exact fresh u (fun e=>hne e.symm) g hg1 hg2
  ·rw[kN _ _ e1] at hg1
   by_cases e2:u=s
   ·subst e2
    rw[lN] at hg2
    exact fresh t e1 g hg2 hg1
   ·rw[kN _ _ e2] at hg2
    exact h.lM t u hne g hg1 hg2
theorem lW.Ba{y:α}{s:Nat}(h:lW w base E size enc grp vs)(k:iH base E size enc (vs s) (grp s) y w w'):lW w' base E size enc grp vs:=by
 refine⟨fun t=>?_,h.lM⟩
 by_cases e:t=s
 ·subst e;exact k.own (h.own t)
 ·exact(h.own t).same fun g hg=>k.block g ((h.own t).blk hg).2 fun e2=>h.lM t s e g hg e2
theorem lW.CZ{w0:World}{y:α}{s:Nat}{v':Value}(h0:lW w0 base E size enc grp vs)(h:lW w base E size enc (kF grp s (grp s++[y])) (kF vs s v'))(k:iH base E size enc (vs s) (grp s) y w w') :
  lW w' base E size enc (kF grp s (grp s++[y])) (kF vs s v'):=by
 refine⟨fun t=>?_,h.lM⟩
 have h1:=h.own t
 by_cases e:t=s
 ·subst e
  have e1:kF grp t (grp t++[y]) t=grp t++[y]:=lN _ _ _
  have e2:kF vs t v' t=v':=lN _ _ _
  rw[e1,e2] at h1 ⊢
  exact k.JH _ h1
 ·refine h1.same fun g hg=>k.block g (h1.blk hg).2 fun e2=>?_
  rw[kN _ _ e] at hg
  exact h0.lM t s e g hg e2
theorem lW.XP(h:lW w base E size enc grp vs){s b:Nat}(hb:b<base∨w.heap.size≤b):(vs s).ownBlock≠some b:=fun e=>by
 have:=(h.own s).blk e;omega
end
def vW(n:Nat)(vs:Nat→Value):Array Value:=((List.range n).map vs).toArray
theorem Bc(n:Nat)(vs:Nat→Value):(vW n vs).size=n:=by unfold vW;simp
theorem xA{n:Nat}{vs:Nat→Value}{i:Nat}(h:i<n):(vW n vs)[i]?=some (vs i):=by unfold vW;simp[h]
theorem ac4(n:Nat)(vs:Nat→Value)(s:Nat)(v:Value):(vW n vs).setIfInBounds s v=vW n (kF vs s v):=by
 apply Array.ext_getElem?
 intro i
 by_cases hi:i<n
 ·rw[xA hi,Array.getElem?_setIfInBounds,Bc,xA hi]
  by_cases e:s=i
  ·subst e;rw[if_pos rfl,if_pos hi,lN]
  ·rw[if_neg e,kN _ _ (fun h=>e h.symm)]
 ·rw[Array.getElem?_eq_none (by rw[Array.size_setIfInBounds,Bc];omega),Array.getElem?_eq_none (by rw[Bc];omega)]
theorem Rk(n:Nat)(vs:Nat→Value)(s:Nat)(v:Value)(h:n≤s):vW n (kF vs s v)=vW n vs:=by
 unfold vW
 congr 1
 refine List.map_congr_left fun i hi=>?_
 have:=List.mem_range.1 hi
 exact kN _ _ (by omega)
end
section
open Go.RowKit
structure Qv(X X':Nat→Prop)(A B:World)(row:Option Nat):Prop where
 grown:A.grownBy B row
 own:∀ r,row=some r→X r
 new:∀ b,X' b→X b∨(A.heap.size≤b∧b<B.heap.size)
def Rl{α:Type}(P:Program)(gf:Nat)(lb:Array Value)(encs:α→Array Value)(Z:Nat→Prop)(S:List α→Prop)(N:Nat)(w:World):Prop :=
 ∀ (l:Nat) (J:List α→(Nat→Prop)→World→Prop) (W:World),Below w.heap.size w W →
  (∀ s X X' A B row,J s X A→Qv X X' A B row→J s X' B) →
  (∀ s X A,J s X A→∀ b,X b→b<A.heap.size) →
  (∀ pre x X W1,J pre X W1→pre.length<N→YieldAt Fence.wide 0 P l (encs x) W1 fun e W'=>e=.returned (.bool true)∧J (pre++[x]) X W'∧W1.heap.size≤W'.heap.size∧∀ b,(X b∨Z b)→W'.heap[b]?=W1.heap[b]?) →
  J [] (fun _=>False) W →
  CallsIn Fence.wide 0 P gf (#[.func (.yield l) #[] #[]]++lb) W fun e W'=>(∃ v,e=.returned v)∧∃ xs X,S xs∧J xs X W'
def VX{α:Type}(B0:Nat)(I:List α→(Nat→Prop)→World→Prop):Prop :=
 ∀ s X X' A B row,I s X A→A.grownBy B row→(∀ r,row=some r→X r∨(B0≤r∧∃ o:Obj,A.heap[r]?=some o∧o.isCells=false))→(∀ b,X' b→X b∨(A.heap.size≤b∧b<B.heap.size))→I s X' B
def ZX{α:Type}(I:List α→(Nat→Prop)→World→Prop)(Z X:Nat→Prop)(xs:List α)(W:World):Exit→Act→World→Prop
 | .normal,_,W'=>KeepsOthers W W'∧(∀ b,(X b∨Z b)→W'.heap[b]?=W.heap[b]?)∧I xs X W'
 | _,_,_=>False
theorem XQ{α:Type}{P:Program}{g:Operand}{ps:Array Tmp}{assign body:Code}{Q:Exit→Act→World→Prop}{a:Act}{w:World}{gf:Nat}{lb:Array Value}
  (hg:a.eval g=.func (.func gf) #[] lb) (eg:∀ args w,(callFunc gf args).run P w=.ok (.enter gf args) w)
  {encs:α→Array Value} {Z:Nat→Prop} {S:List α→Prop} {N:Nat} {w0:World} (hseq:Rl P gf lb encs Z S N w0) (hb0:Below w0.heap.size w0 w) (hZ:∀ b,Z b→b<w.heap.size) (hps:∀ x,(encs x).size=ps.size)
  (I:List α→(Nat→Prop)→World→Prop) (hI:VX w.heap.size I) (h0:I [] (fun _=>False) w) (a1:α→Act)
  (hassign:∀ (l:Nat) (x:α) (W:World) (K:Act→World→Prop),K (a1 x) W →
   assign.wpIn (Fence.wide.inRound l) 0 P (Exit.then K (fun _ _ _=>False)) { tmps:=(ps.zip (encs x)).foldl (fun t (p,v)=>t.setIfInBounds p v) a.tmps,defers:=[] } W)
  (hbody:∀ (l:Nat) (pre:List α) (x:α) (X:Nat→Prop) (W:World),I pre X W→(∀ b,X b→w.heap.size≤b∧b<W.heap.size)→w.heap.size≤W.heap.size→pre.length<N→body.wpIn (Fence.wide.inRound l) 0 P (ZX I Z X (pre++[x]) W) (a1 x) W)
  (hdone:∀ (D:Nat) (xs:List α) (X:Nat→Prop) (W:World),w.heap.size≤D→S xs→I xs X W→W.heap[D]?=some (.deferred (some []))→Q .normal { a with defers:={ target:=.collected D,args:=#[] }::a.defers } W) :
  (Code.rangeFunc g ps assign body).wpIn Fence.wide 0 P Q a w:=by
 refine wpIn_rangeFunc ?_
 intro fn hfn
 obtain⟨rec,hrec⟩:∃ rec:LoopState→Option Code→Loop,rec=fun st pe=>{ state:=st,pending:=pe,fn,tmps:=a.tmps,params:=ps,assign,body,defers:=w.heap.size }:=⟨_,rfl⟩
 obtain⟨W1,hW1⟩:∃ W1,(w.alloc (.deferred (some []))).alloc (.loop (rec .ready none))=W1:=⟨_,rfl⟩
 have hL1:W1.heap[w.heap.size+1]?=some (.loop (rec .ready none)):=by
  rw[←hW1];have:=World.alloc_heap_new (w.alloc (.deferred (some []))) (.loop (rec .ready none));rwa[World.size_alloc] at this
 have hK1:W1.heap[w.heap.size]?=some (.deferred (some [])):=by
  rw[←hW1];exact(Below.heap_alloc _ _ _ (by simp)).trans (World.alloc_heap_new w _)
 have hI1:I [] (fun _=>False) W1:=by
  rw[←hW1]
  exact hI _ _ _ _ _ none (hI _ _ _ _ _ none h0 (World.grownBy_alloc w _ none) (fun _ e=>by cases e) (fun _ e=>.inl e)) (World.grownBy_alloc _ _ none) (fun _ e=>by cases e) (fun _ e=>.inl e)
 have hs1:W1.heap.size=w.heap.size+2:=by rw[←hW1];simp
 have hb1:Below w0.heap.size w0 W1:=by
  rw[←hW1];exact hb0.trans ((((Below.refl _ w).alloc (Nat.le_refl _) _).alloc (by simp) _).mono hb0.size)
 refine⟨w.heap.size+1,[{ target:=.collected w.heap.size,args:=#[] }],W1,{ target:=.fn (.func gf) lb,args:=#[.func (.yield (w.heap.size+1)) #[] #[]] },W1,gf,
  #[.func (.yield (w.heap.size+1)) #[] #[]]++lb,W1,?_,?_,?_,?_,(fun h=>by cases h),?_⟩
 ·rw[←hW1,hrec];exact run_enterLoop_outer _ _ _ _ _
 ·simp only[resolve,hg]
  simp[go_sem]
 ·intro f' hf';exact trivial
 ·simp[invoke,go_sem,eg]
 ·refine(hseq (w.heap.size+1)
   (fun pre X W=>I pre X W∧(∀ b,X b→w.heap.size+2≤b∧b<W.heap.size)∧w.heap.size+2≤W.heap.size∧W.heap[w.heap.size+1]?=some (.loop (rec .ready none))∧W.heap[w.heap.size]?=some (.deferred (some [])))
   W1 hb1 ?_ (fun s X A h b hb=>(h.2.1 b hb).2) ?_ ⟨hI1,fun _ h=>h.elim,by omega,hL1,hK1⟩).mono ?_
  ·rintro s X X' A B row ⟨hi,hx,hz,hl,hk⟩ ht
   have hsz:=ht.grown.size
   have hne:∀ k,k<w.heap.size+2→B.heap[k]?=A.heap[k]?:=fun k hk=>ht.grown.block k (by omega) (fun e=>by have:=hx k (ht.own k e.symm);omega)
   refine⟨hI s X X' A B row hi ht.grown (fun r e=>.inl (ht.own r e)) ht.new,fun b hb=>?_,by omega,(hne _ (by omega)).trans hl,(hne _ (by omega)).trans hk⟩
   rcases ht.new b hb with h | ⟨h1,h2⟩
   ·have:=hx b h;exact⟨this.1,by omega⟩
   ·exact⟨by omega,h2⟩
  ·rintro pre x X W ⟨hi,hx,hz,hl,hk⟩ hlen
   have hlt:w.heap.size+1<W.heap.size:=(Array.getElem?_eq_some_iff.1 hl).1
   have hy:=run_yield (P:=P) (args:=encs x) hl (by rw[hrec];exact hps x)
   rw[hrec] at hy
   refine⟨fn,_,assign,body,hy,roundIn_of_wpIn hfn (hassign _ x W _ ⟨_,run_beginRound hl (by rw[hrec]),?_⟩)⟩
   obtain⟨W2,hW2⟩:∃ W2,W.putObj (w.heap.size+1) (.loop { rec .ready none with state:=.busy })=W2:=⟨_,rfl⟩
   have hl2:W2.heap[w.heap.size+1]?=some (.loop { rec .ready none with state:=.busy }):=by rw[←hW2];exact World.putObj_heap_same hlt
   have hk2:W2.heap[w.heap.size]?=some (.deferred (some [])):=by rw[←hW2];exact(World.putObj_heap_other (by omega)).trans hk
   have hz2:W2.heap.size=W.heap.size:=by rw[←hW2];simp
   have ho2:∀ b,b≠w.heap.size+1→W2.heap[b]?=W.heap[b]?:=fun b hb=>by rw[←hW2];exact World.putObj_heap_other hb
   have hi2:I pre X W2:=by
    rw[←hW2]
    exact hI _ _ _ _ _ (some _) hi (grownBy_putObj' W _ _) (fun r e=>by cases e;exact .inr ⟨by omega,_,hl,rfl⟩) (fun b hb=>.inl hb)
   refine wpIn_mono (hW2▸hbody _ pre x X W2 hi2 (fun b hb=>by have:=hx b hb;omega) (by omega) hlen) ?_
   rintro e a3 W3 hp
   cases e with
   | normal =>
    obtain⟨hk3,hs3,hi3⟩:=hp
    have hl3:=hk3.same _ _ (hW2▸hl2) rfl
    have hk4:=hk3.same _ _ (hW2▸hk2) rfl
    have hsz3:=hk3.size
    have hend:=run_endRound (P:=P) none hl3
    have hsz2:=hz2
    rw[←hW2] at hsz2
    refine⟨_,_,hend,rfl,⟨?_,?_,?_,?_,?_⟩,?_,?_⟩
    ·exact hI _ _ _ _ _ (some _) hi3 (grownBy_putObj' W3 _ _) (fun r e=>by cases e;exact .inr ⟨by omega,_,hl3,rfl⟩) (fun b hb=>.inl hb)
    ·intro b hb
     rw[World.putObj_size]
     have:=hx b hb
     exact⟨this.1,by omega⟩
    ·rw[World.putObj_size];omega
    ·rw[World.putObj_heap_same (Array.getElem?_eq_some_iff.1 hl3).1,hrec];rfl
    ·exact(World.putObj_heap_other (by omega)).trans hk4
    ·rw[World.putObj_size];omega
    ·intro b hb
     have hne:b≠w.heap.size+1:=by
      rcases hb with h | h
      ·have:=hx b h;omega
      ·have:=hZ b h;omega
     rw[World.putObj_heap_other hne,hs3 b hb,World.putObj_heap_other hne]
   | _=>exact hp.elim
  ·rintro e W2 ⟨⟨v,rfl⟩,xs,X,hS,hi,hx,hz,hl,hk⟩
   refine⟨none,_,by have:=run_endLoop (P:=P) hl (by rw[hrec];simp);rw[hrec] at this;exact this,hdone _ xs X _ (Nat.le_refl _) hS ?_ ((World.putObj_heap_other (by omega)).trans hk)⟩
   exact hI _ _ _ _ _ (some _) hi (grownBy_putObj' W2 _ _) (fun r e=>by cases e;exact .inr ⟨by omega,_,hl,rfl⟩) (fun b hb=>.inl hb)
end
end Go.Proofs.YtbemonecmmnlcaaGreatDoor
