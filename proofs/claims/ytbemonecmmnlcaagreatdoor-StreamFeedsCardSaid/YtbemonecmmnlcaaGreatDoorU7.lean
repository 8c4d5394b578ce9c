/- The texts of T7, in few letters (mini.py). -/
import Derived.Test.YtbemonecmmnlcaaGreatDoorU6
import Derived.Deep.Upon
set_option linter.unusedVariables false
set_option linter.unusedSimpArgs false
set_option maxHeartbeats 2000000
set_option maxRecDepth 20000
namespace Go.Proofs.YtbemonecmmnlcaaGreatDoor
section
open Go.RowKit
structure dn(r base:Nat)(w w':World):Prop where
 low:Below r w w'
 cells:aS (fun k=>k=r∨base≤k) w w'
 others:KeepsOthers w w'
theorem dn.refl(r base:Nat)(w:World):dn r base w w:=⟨Below.refl _ _,aS.refl _ _,KeepsOthers.refl _⟩
theorem dn.trans{r base:Nat}{a b c:World}(h:dn r base a b)(k:dn r base b c):dn r base a c:=⟨h.low.trans k.low,h.cells.trans k.cells,h.others.trans k.others⟩
theorem Rn{w w':World}(h:Below w.heap.size w w'):KeepsOthers w w':=⟨h.size,fun k _ hk _=>(h.block k (Array.getElem?_eq_some_iff.1 hk).1).trans hk⟩
theorem dn.below{r base:Nat}{w w':World}(hr:r≤w.heap.size)(h:Below w.heap.size w w'):dn r base w w':=⟨h.mono hr,aS.below h,Rn h⟩
theorem dn.set{r base:Nat}(w:World)(i:Nat)(v:Value):dn r base w (w.setCell ⟨r,i,none⟩ v):=⟨(Below.refl r w).setCell (by simp) v,aS.set w _ v (.inl rfl),KeepsOthers.setCell w _ v⟩
theorem C9{α:Type}{enc:α→List Value}{w:World}{b c size:Nat}{y:α}(h:ak w (.slice (some ⟨b,0,none⟩) 1 c) size enc [y]):∀ j u,(enc y)[j]?=some u→w.cell? ((⟨b,0,none⟩:Addr).add j)=some u:=fun j u hu=>by
 obtain⟨a,b',o,cap,hv,_,_,ha,hx⟩:=h
 obtain⟨rfl,_,_⟩:=Value.slice.inj hv
 have e:(⟨b,0,none⟩:Addr).add j=⟨b,j,none⟩:=by rw[Addr.add_lit];simp
 rcases ha with ha | ⟨ha,_⟩
 ·simp only[Option.some.injEq,Addr.mk.injEq] at ha
  obtain⟨rfl,rfl,_⟩:=ha
  have:=hx 0 (by simp) j u hu
  rw[e]
  simpa using this
 ·cases ha
theorem dn.grown{α:Type}{r base E size:Nat}{w w':World}{enc:α→List Value}{v:Value}{xs:List α}(h:Own w base E size enc v xs)(hg:w.grownBy w' v.ownBlock)(hr:r≤base)(hw:r≤w.heap.size):dn r base w w' :=
 ⟨below_grown (Below.refl _ _) h hg hr hw,aS.grown h hg (fun _ hb=>.inr hb),KeepsOthers.JG h hg⟩
theorem dD{b:Bool}{A B:Prop}(hb:b=true)(h:A):if b=true then A else B:=by rw[if_pos hb];exact h
end
section
open Go.RowKit
theorem ak.akU{α:Type}{w:World}{b o n c size:Nat}{enc:α→List Value}{ys:List α}(he:fD enc size)(hpos:0<size)(h:ak w (.slice (some ⟨b,o,none⟩) n c) size enc ys):∀ j u,(ys.flatMap enc)[j]?=some u→w.cell? ((⟨b,o,none⟩:Addr).add j)=some u:=fun j u hu=>by
 obtain⟨a',b',o',c',hv,_,_,ha,hx⟩:=h
 obtain⟨rfl,rfl,rfl⟩:=Value.slice.inj hv
 have hl:(ys.flatMap enc).length=ys.length*size:=by
  have:∀ l:List α,(l.flatMap enc).length=l.length*size:=by
   intro l
   induction l with
   | nil=>simp
   | cons x l ih=>rw[List.flatMap_cons,List.length_append,ih,he.len,List.length_cons,Nat.succ_mul,Nat.add_comm]
  exact this ys
 have hj:j<ys.length*size:=by have:=(List.getElem?_eq_some_iff.1 hu).1;omega
 have hi:j / size<ys.length:=Nat.div_lt_of_lt_mul (by rwa[Nat.mul_comm])
 have hm:=Nat.mod_lt j hpos
 have hd:=Nat.div_add_mod j size
 have e:=qg he.len ys (j / size) (j % size) hi hm
 rw[Nat.mul_comm,hd] at e
 rw[e] at hu
 have h1:=hx _ hi _ u hu
 rcases ha with ha | ⟨rfl,_⟩
 ·cases ha
  rw[Addr.add_mid]
  rwa[Nat.add_assoc,Nat.mul_comm (j / size),hd] at h1
 ·simp at hi
theorem U9{α:Type}{P:Program}{w:World}{base E size bytes:Nat}{enc:α→List Value}{v z:Value}{xs ys:List α}{t:TypeId}(ty:TypeId)(hE:eu P t E z size bytes)(he:fD enc size)(hown:Own w base E size enc v xs)(xa:Option Addr)(m xc:Nat)(hs:ak w (.slice xa m xc) size enc ys)
  (h63:xs.length+m≤maxLen) (hbytes:(xs.length+m)*bytes≤140737488355328) (hbase:base≤w.heap.size) :
  ∃ a' c' w',(Builtin.append_ #[t,t] ty #[v,.slice xa m xc]).run P w=.ok (.slice a' (xs.length+m) c') w'∧Own w' base E size enc (.slice a' (xs.length+m) c') (xs++ys)∧w.grownBy w' v.ownBlock∧((Value.slice a' (xs.length+m) c').ownBlock=v.ownBlock∨(Value.slice a' (xs.length+m) c').ownBlock=some w.heap.size):=by
 obtain⟨i,hi,hz,hsz,hby⟩:=hE.info
 obtain⟨b,o,hm,hmc,hc63,ha,_⟩:=hs.open
 by_cases h0:m=0
 ·subst h0
  obtain rfl:ys=[]:=List.eq_nil_of_length_eq_zero (by omega)
  obtain⟨a,cap,rfl⟩:=hown.form
  have hsrc:Src P i.size t (.slice xa 0 xc) 0 [] w:=by
   cases xa with
   | none=>exact Src.ofNil w hE.slice xc
   | some ad=>exact Src.ofSlice w hE.slice ad 0 xc [] (by simp) (fun j u hu=>by simp at hu) (fun u hu=>by cases hu)
  have hle:xs.length≤cap:=by obtain⟨_,_,hv,hle,_⟩:=hown;obtain⟨_,_,rfl⟩:=Value.slice.inj hv;exact hle
  exact⟨a,cap,w,run_append_nothing w _ _ _ E i hE.slice hi a xs.length cap hle _ hsrc,by rw[List.append_nil];exact hown,⟨rfl,rfl,rfl,Nat.le_refl _,fun _ _ _=>rfl⟩,.inl rfl⟩
 ·obtain rfl:=ha 0 (by omega)
  have hl:(ys.flatMap enc).length=m*size:=by
   have:∀ l:List α,(l.flatMap enc).length=l.length*size:=by
    intro l
    induction l with
    | nil=>simp
    | cons x l ih=>rw[List.flatMap_cons,List.length_append,ih,he.len,List.length_cons,Nat.succ_mul,Nat.add_comm]
   rw[this,hm]
  have hnews:=hs.akU he hE.pos
  have h1:∀ u∈ys.flatMap enc,u.oneCell'=true:=fun u hu=>by
   obtain⟨x,_,hx⟩:=List.mem_flatMap.1 hu
   exact he.one x u hx
  obtain⟨v',w',hr,h2,h3,_⟩:=run_append_own (P:=P) w base t ty E i z size bytes hE.slice hi hz hsz hby hE.Hf hE.pos v xs.length (xs.flatMap enc) (hown.pz he) ⟨b,o,none⟩ m xc (ys.flatMap enc) hl hnews h1 h63 hbytes hbase
  have hb:=ru (c:=xc) hE.slice hi hz hsz hby (hown.pz he) hl hnews h1 (by omega) h63 hbytes hr
  have ho':Own w' base E size enc v' (xs++ys):=by
   refine Own.ofRow ?_ he
   rw[List.length_append,List.flatMap_append,←hm]
   exact h2
  obtain⟨a',c',rfl⟩:=ho'.form
  have e:(xs++ys).length=xs.length+m:=by rw[List.length_append];omega
  rw[e] at ho' hr hb
  exact⟨a',c',w',hr,ho',h3,hb⟩
theorem oC{α:Type}{P:Program}{w:World}{base E size bytes:Nat}{enc:α→List Value}{v z:Value}{xs ys:List α}{ops:Array Oper}{rest:List Oper}{o:Oper}{a:Act}{Q:Exit→Act→World→Prop}(hgd:o.guard=none)(s x:Operand)(t:TypeId)
  (ho:o.op=.call { callee:=.builtin .append,args:=#[s,x],argTypes:=#[t,t] }) (hE:eu P t E z size bytes) (he:fD enc size) (hs:a.eval s=v) (hown:Own w base E size enc v xs) (xa:Option Addr) (m xc:Nat) (hx:a.eval x=.slice xa m xc) (hsl:ak w (.slice xa m xc) size enc ys)
  (h63:xs.length+m≤maxLen) (hbytes:(xs.length+m)*bytes≤140737488355328) (hbase:base≤w.heap.size)
  (K:∀ a' c' w',Own w' base E size enc (.slice a' (xs.length+m) c') (xs++ys)→w.grownBy w' v.ownBlock→((Value.slice a' (xs.length+m) c').ownBlock=v.ownBlock∨(Value.slice a' (xs.length+m) c').ownBlock=some w.heap.size)→wpList P ops Q rest (a.put o.dst (.slice a' (xs.length+m) c')) w'):wpList P ops Q (o::rest) a w:=by
 obtain⟨a',c',w',hr,h1,h2,h3⟩:=U9 (P:=P) o.type hE he hown xa m xc hsl h63 hbytes hbase
 refine wpList_plain hgd fun _ hK=>?_
 unfold Oper.wp execOp
 simp only[ho,resolve,invoke,builtin,Sem.run_bind,Sem.run_pure,Result.andThen_ok,List.map_toArray,List.map_cons,List.map_nil,hs,hx,hr]
 exact hK _ _ (K a' c' w' h1 h2 h3)
end
section
open Go.RowKit Go.Shelf
attribute [local go_sem] Oper.semAt_some
def Tab(w:World):Prop:=∀ j,j<64→w.cell? ⟨1,j,none⟩=some (.int .u8 (Lib.deBruijn64tab.getD j 0))
theorem Tab.block{w:World}(h:Tab w):∃ o,w.heap[1]?=some o∧o.isCells=true:=cells_of_cell (h 0 (by decide))
theorem Tab.Hu{X:Nat→Prop}{w w':World}(h:Tab w)(hx:¬ X 1)(hk:aS X w w'):Tab w':=fun j hj=>hk.cell hx (h j hj)
theorem Tab.kept{w w':World}(h:Tab w)(hb:Below w.heap.size w w'):Tab w':=h.Hu (X:=fun _=>False) id (aS.below hb)
theorem Tab.pos{w:World}(h:Tab w):1<w.heap.size:=by obtain⟨o,ho,_⟩:=h.block;exact(Array.getElem?_eq_some_iff.1 ho).1
theorem aht(x a:Nat)(hx:x<18446744073709551616)(hx0:x≠0)(hlow:x &&& (18446744073709551616 - x)=a) :
  IntKind.u64.wrap (bits BinOp.and IntKind.u64 (x:Int) (IntKind.u64.wrap (-(x:Int)))*285870213051353865) / 288230376151711744=((a*285870213051353865 % 18446744073709551616 / 288230376151711744:Nat):Int):=by
 have e1:IntKind.u64.wrap (-(x:Int))=((18446744073709551616 - x:Nat):Int):=by rw[IntKind.wrap_u64];omega
 rw[e1,bits_and_u64_nat x _ hx (by omega),hlow,IntKind.wrap_u64]
 omega
theorem tz64_core(x k idx:Nat)(w:World)(hx0:((x:Int)==0)=false)
  (key:IntKind.u64.wrap (bits BinOp.and IntKind.u64 (x:Int) (IntKind.u64.wrap (-(x:Int)))*285870213051353865) / 288230376151711744=(idx:Int))
  (hi:idx<64) (hcell:w.cell? ⟨1,idx,none⟩=some (.int .u8 k)) (hk:k<64) :
  Calls Tryz.prog 244 #[.int .u64 x] w fun e w'=>e=.returned (.int .i64 k)∧w'=w:=by
 go_enter Tryz.func244,Tryz.ntmps244
 go_wp2_with (simp only[key])
 go_ret
 exact⟨rfl,rfl⟩
theorem ahu(x:Nat)(h0:x≠0)(hx:x<18446744073709551616)(w:World)(hT:Tab w) :
  Calls Tryz.prog 244 #[.int .u64 x] w fun e w'=>e=.returned (.int .i64 (Lib.ctz 64 x:Nat))∧w'=w:=by
 obtain⟨hlow,hk⟩:=Lib.lowest_bit 64 x h0 hx
 obtain⟨hi,htab⟩:=Lib.deBruijn64_at _ hk
 have hcell:=hT _ hi
 rw[htab] at hcell
 exact tz64_core x _ _ w (by simp;omega) (aht x _ hx h0 hlow) hi hcell hk
abbrev Ro(x:Nat):Array Value:=#[.int .u8 x]
def agw(X:Nat→Prop)(J:List Nat→World→Prop)(s:aA)(W wr:World)(i:Value):Prop :=
 ∃ j pre,j≤4∧i=.int .i64 (j:Nat)∧pre++zC s j (4 - j)=elems s∧J pre wr∧aS X W wr
def ac5(X:Nat→Prop)(J:List Nat→World→Prop)(s:aA)(j:Nat)(W wr:World)(v:Value):Prop :=
 ∃ u pre:_,u<18446744073709551616∧v=.int .u64 (u:Nat)∧pre++(jX j u++zC s (j+1) (3 - j))=elems s∧J pre wr∧aS X W wr
theorem Rq(u:Nat)(h0:u≠0)(h:u<18446744073709551616):bits BinOp.and IntKind.u64 (u:Int) ((u:Int) - 1)=((u &&& (u - 1):Nat):Int):=by
 rw[show((u:Int) - 1)=((u - 1:Nat):Int) by omega,bits_and_u64_nat u _ h (by omega)]
set_option maxRecDepth 100000 in
theorem ac6(n l Bs:Nat)(X:Nat→Prop)(Rt:¬ X 1)(J Jx:List Nat→World→Prop)(s:aA)
  (hY:∀ pre x W,J pre W→pre.length<(elems s).length→x<256→YieldAt Fence.wide (n - 1) Tryz.prog l (Ro x) W fun e W'=>(e=.returned (.bool true)∧J (pre++[x]) W'∧aS X W W')∨(e=.returned (.bool false)∧Jx (pre++[x]) W'))
  (W:World) (hT:Tab W) (hBs:Box W Bs (eY s) 149) (h0:J [] W) :
  CallsIn Fence.wide n Tryz.prog 243 #[.func (.yield l) #[] #[],.pointer (some ⟨Bs,0,none⟩)] W fun e W'=>(∃ v,e=.returned v)∧((∃ ys,ys=elems s∧J ys W')∨(∃ pre,pre <+: elems s∧Jx pre W')):=by
 obtain⟨c0,c1,c2,c3⟩:=hBs.BP
 refine callsIn_of_wp Tryz.func243 rfl trivial ?_ rfl
 simp only[Tryz.ntmps243,List.size_toArray,List.length_cons,List.length_nil,Nat.reduceAdd,Nat.reduceSub,Array.replicate_succ,Array.replicate_zero,List.push_toArray,List.append_toArray,List.nil_append,List.cons_append]
 gi_wp2
 gi_loopw [6] (fun i wr=>agw X J s W wr i) (fun i _=>4 - (intOf i).toNat)
 case atStart=>exact⟨0,[],by omega,rfl,by rw[List.nil_append];exact(Iu s).symm,h0,aS.refl _ _⟩
 case round =>
  obtain⟨j,pre,hj,rfl,he,wR,hkr⟩:=hrel
  by_cases hlt:j<4
  ·have gw:=Fj s j hlt
   have hdj:decide ((j:Int)<4)=true:=decide_eq_true (by omega)
   rw[show 4 - j=(3 - j)+1 by omega,zC] at he
   have hu:=word_lt s j
   generalize word s j=u0 at *
   gi_wp2
   gi_loopw [4] (fun v wr=>ac5 X J s j W wr v) (fun v _=>(intOf v).toNat)
   case atStart=>exact⟨_,pre,hu,rfl,he,wR,hkr⟩
   case round =>
    obtain⟨u,pre,hu,rfl,he,wR,hkr⟩:=hrel
    by_cases hz:u=0
    ·subst hz
     rw[jX,Ir,List.map_nil,List.nil_append] at he
     gi_wp2
     exact⟨⟨j+1,pre,hlt,by simp,by rw[show 4 - (j+1)=3 - j by omega];exact he,wR,hkr⟩,by simp[intOf];omega⟩
    ·have hne:((u:Int) != 0)=true:=by simp;omega
     obtain⟨hls,hk,hdec⟩:=QL u hz hu
     have hand:=Rq u hz hu
     have Aa:jX j u=(64*j+Lib.ctz 64 u)::jX j (u &&& (u - 1)):=by rw[jX,hls];rfl
     have hl:pre.length<(elems s).length:=by
      rw[←he,jX,hls];simp
     have FB:=hY pre (64*j+Lib.ctz 64 u) wr wR hl (by omega)
     rw[show Ro (64*j+Lib.ctz 64 u)=#[.int .u8 ((j:Int)*64+(Lib.ctz 64 u:Nat))] by simp only[Ro];rw[show((64*j+Lib.ctz 64 u:Nat):Int)=(j:Int)*64+(Lib.ctz 64 u:Nat) by omega]] at FB
     obtain⟨fn,tmps,assign,body,hy,hR⟩:=FB
     have HT:=ah (hT.Hu Rt hkr)
     have TZ:=fun w hT=>ahu u hz hu w hT
     generalize Lib.ctz 64 u=k at *
     have hdd:∀ k:Nat,(Fence.wide.depth.isSome=true→1≤k):=fun k h=>by cases h
     gi_wp2_with (first | (refine⟨trivial,hdd _,?_⟩;gi_at_call 244;go_must (refine(callsIn_wide.2 (TZ _ HT.out)).mono ?_;rintro e w1 ⟨rfl,rfl⟩)) | (refine⟨hdd _,?_⟩;refine hR.mono ?_;clear hR;rintro e W2 (⟨rfl,hJ2,hk2⟩ | ⟨rfl,hx2⟩)))
     ·refine⟨⟨u &&& (u - 1),pre++[64*j+k],by omega,rfl,?_,hJ2,hkr.trans hk2⟩,by simp[intOf];omega⟩
      rw[←he,Aa];simp
     ·refine bodyPost_ret (results_none rfl _ _ _) rfl ?_
      refine⟨⟨_,rfl⟩,.inr ⟨_,?_,hx2⟩⟩
      rw[←he,Aa]
      exact⟨jX j (u &&& (u - 1))++zC s (j+1) (3 - j),by simp⟩
  ·obtain rfl:j=4:=by omega
   rw[show zC s 4 (4 - 4)=[] from rfl,List.append_nil] at he
   subst he
   gi_wp2
   go_end0
   exact⟨⟨_,rfl⟩,.inl ⟨_,rfl,wR⟩⟩
theorem XR(n Bs:Nat)(X:Nat→Prop)(s:aA)(w:World)(Rt:¬ X 1)(hT:Tab w)(hBs:Box w Bs (eY s) 149) :
  SeqStopsK Fence.wide n Tryz.prog 243 #[.pointer (some ⟨Bs,0,none⟩)] Ro (aS X) (fun ys=>ys=elems s) (fun pre=>pre <+: elems s) (elems s).length w:=fun l J Jx W hW _ _ hY h0 =>
 ac6 n l Bs X Rt J Jx s (fun pre x W hj hl _=>hY pre x W hj hl) W (hT.kept hW) (hBs.kept hW) h0
theorem agx(s:aA)(w:World):Calls Tryz.prog 201 #[.agg (eY s)] w fun e w'=>e=.returned (.func (.func 243) #[] #[.pointer (some ⟨w.heap.size,0,none⟩)])∧w'=w.alloc (.cells (eY s) 149):=by
 go_enter Tryz.func201,Tryz.ntmps201
 go_wp2
 go_ret
 exact⟨rfl,rfl⟩
end
section
open Go.RowKit Go.Shelf
attribute [local go_sem] Oper.semAt_some
abbrev rC(x:Nat):Array Value:=#[.int .i64 x]
def akV(X:Nat→Prop)(J:List Nat→World→Prop)(N m S:Nat)(W wr:World)(i:Value):Prop :=
 ∃ j pre,j≤m∧i=.int .i64 (j:Nat)∧pre++xP S j (m - j)=gY N S∧J pre wr∧aS X W wr
def ahv(X:Nat→Prop)(J:List Nat→World→Prop)(N m S j:Nat)(W wr:World)(v:Value):Prop :=
 ∃ u pre:_,u<18446744073709551616∧v=.int .u64 (u:Nat)∧pre++(jX j u++xP S (j+1) (m - j - 1))=gY N S∧J pre wr∧aS X W wr
set_option maxRecDepth 100000 in
theorem Ru(n l Bq p g N S:Nat)(X:Nat→Prop)(Rt:¬ X 1)(hgX:¬ X g)(J Jx:List Nat→World→Prop)(hN:N≤1048576)
  (hY:∀ pre x W,J pre W→pre.length<(gY N S).length→YieldAt Fence.wide (n - 1) Tryz.prog l (rC x) W fun e W'=>(e=.returned (.bool true)∧J (pre++[x]) W'∧aS X W W')∨(e=.returned (.bool false)∧Jx (pre++[x]) W'))
  (W:World) (hT:Tab W) (hq:Box W Bq #[.pointer (some ⟨p,0,none⟩)] 353) (hB:gu W p g N S) (h0:J [] W) :
  CallsIn Fence.wide n Tryz.prog 329 #[.func (.yield l) #[] #[],.pointer (some ⟨Bq,0,none⟩)] W fun e W'=>(∃ v,e=.returned v)∧((∃ ys,ys=gY N S∧J ys W')∨(∃ pre,pre <+: gY N S∧Jx pre W')):=by
 have c0:W.cell? ⟨Bq,0,none⟩=some (.pointer (some ⟨p,0,none⟩)):=hq.cell 0
 have x1:W.cell? ⟨p,1,none⟩=some (.slice (some ⟨g,0,none⟩) (dA N) (dA N)):=hB.box.cell 1
 have hwd:=hB.words
 have hel:=XA N (dA N) S (by unfold dA;omega) hB.lt
 have hm:dA N≤16384:=by unfold dA;omega
 generalize dA N=m at *
 have HWD:=ah hwd;have HEL:=ah hel
 clear hwd hB hq hel
 refine callsIn_of_wp Tryz.func329 rfl trivial ?_ rfl
 simp only[Tryz.ntmps329,List.size_toArray,List.length_cons,List.length_nil,Nat.reduceAdd,Nat.reduceSub,Array.replicate_succ,Array.replicate_zero,List.push_toArray,List.append_toArray,List.nil_append,List.cons_append]
 gi_wp2
 gi_loopw [12] (fun i wr=>akV X J N m S W wr i) (fun i _=>m - (intOf i).toNat)
 case atStart=>exact⟨0,[],by omega,rfl,by rw[List.nil_append];exact HEL.out.symm,h0,aS.refl _ _⟩
 case round =>
  obtain⟨j,pre,hj,rfl,he,wR,hkr⟩:=hrel
  by_cases hlt:j<m
  ·have hbx:=hkr.box hgX HWD.out
   have gw:wr.cell? ⟨g,j,none⟩=some (.int .u64 (eH S j:Nat)):=(hbx.cell _).trans (pG _ _ _ hlt)
   have hbl:=hbx.lt
   have hdj:decide ((j:Int)<(m:Int))=true:=decide_eq_true (by omega)
   rw[show m - j=(m - j - 1)+1 by omega,xP] at he
   have hu:=DY S j
   generalize eH S j=u0 at *
   clear hbx
   gi_wp2
   gi_loopw [4] (fun v wr=>ahv X J N m S j W wr v) (fun v _=>(intOf v).toNat)
   case atStart=>exact⟨_,pre,hu,rfl,he,wR,hkr⟩
   case round =>
    clear gw hbl
    obtain⟨u,pre,hu,rfl,he,wR,hkr⟩:=hrel
    by_cases hz:u=0
    ·subst hz
     rw[jX,Ir,List.map_nil,List.nil_append] at he
     gi_wp2
     exact⟨⟨j+1,pre,hlt,by simp,by rw[show m - (j+1)=m - j - 1 by omega];exact he,wR,hkr⟩,by simp[intOf];omega⟩
    ·have hne:((u:Int) != 0)=true:=by simp;omega
     obtain⟨hls,hk,hdec⟩:=QL u hz hu
     have hand:=Rq u hz hu
     have Aa:jX j u=(64*j+Lib.ctz 64 u)::jX j (u &&& (u - 1)):=by rw[jX,hls];rfl
     have hl:pre.length<(gY N S).length:=by
      rw[←he,jX,hls];simp
     have FB:=hY pre (64*j+Lib.ctz 64 u) wr wR hl
     rw[show rC (64*j+Lib.ctz 64 u)=#[.int .i64 ((j:Int)*64+(Lib.ctz 64 u:Nat))] by simp only[rC];rw[show((64*j+Lib.ctz 64 u:Nat):Int)=(j:Int)*64+(Lib.ctz 64 u:Nat) by omega]] at FB
     obtain⟨fn,tmps,assign,body,hy,hR⟩:=FB
     have HT:=ah (hT.Hu Rt hkr)
     have TZ:=fun w hT=>ahu u hz hu w hT
     generalize Lib.ctz 64 u=k at *
     have hdd:∀ k:Nat,(Fence.wide.depth.isSome=true→1≤k):=fun k h=>by cases h
     gi_wp2_with (first | (refine⟨trivial,hdd _,?_⟩;gi_at_call 244;go_must (refine(callsIn_wide.2 (TZ _ HT.out)).mono ?_;rintro e w1 ⟨rfl,rfl⟩)) | (refine⟨hdd _,?_⟩;refine hR.mono ?_;clear hR;rintro e W2 (⟨rfl,hJ2,hk2⟩ | ⟨rfl,hx2⟩)))
     ·refine⟨⟨u &&& (u - 1),pre++[64*j+k],by omega,rfl,?_,hJ2,hkr.trans hk2⟩,by simp[intOf];omega⟩
      rw[←he,Aa];simp
     ·refine bodyPost_ret (results_none rfl _ _ _) rfl ?_
      refine⟨⟨_,rfl⟩,.inr ⟨_,?_,hx2⟩⟩
      rw[←he,Aa]
      exact⟨jX j (u &&& (u - 1))++xP S (j+1) (m - j - 1),by simp⟩
  ·obtain rfl:j=m:=by omega
   rw[Nat.sub_self,show xP S j 0=[] from rfl,List.append_nil] at he
   subst he
   gi_wp2
   go_end0
   exact⟨⟨_,rfl⟩,.inl ⟨_,rfl,wR⟩⟩
theorem NU(n Bq p g N S:Nat)(X:Nat→Prop)(w:World)(hN:N≤1048576)(Rt:¬ X 1)(hgX:¬ X g)(hT:Tab w)(hq:Box w Bq #[.pointer (some ⟨p,0,none⟩)] 353)(hB:gu w p g N S) :
  SeqStopsK Fence.wide n Tryz.prog 329 #[.pointer (some ⟨Bq,0,none⟩)] rC (aS X) (fun ys=>ys=gY N S) (fun pre=>pre <+: gY N S) (gY N S).length w:=fun l J Jx W hW _ _ hY h0 =>
 Ru n l Bq p g N S X Rt hgX J Jx hN (fun pre x W hj hl=>hY pre x W hj hl) W (hT.kept hW) (hq.kept hW) (hB.kept hW) h0
theorem Va(a:Option Addr)(w:World):Calls Tryz.prog 321 #[.pointer a] w fun e w'=>e=.returned (.func (.func 329) #[] #[.pointer (some ⟨w.heap.size,0,none⟩)])∧w'=w.alloc (.cells #[.pointer a] 353):=by
 go_enter Tryz.func321,Tryz.ntmps321
 go_wp2
 go_ret
 exact⟨rfl,rfl⟩
end
section
open Go.RowKit Go.Shelf
attribute [local go_sem] Oper.semAt_some
end
section
open Go.RowKit Go.Shelf
attribute [local go_sem] Oper.semAt_some
theorem Own.cellAt{α:Type}{w:World}{base E size g n cap:Nat}{enc:α→List Value}{xs:List α}(h:Own w base E size enc (.slice (some ⟨g,0,none⟩) n cap) xs){i j:Nat}(hi:i<xs.length)(hj:j<size) :
  w.cell? ⟨g,i*size+j,none⟩=(enc xs[i])[j]?∧w.frozen? ⟨g,i*size+j,none⟩=false∧base≤g∧g<w.heap.size:=by
 obtain⟨a,cap',hv,hle,hm,hh⟩:=h
 obtain⟨rfl,_,_⟩:=Value.slice.inj hv
 rcases hh with⟨h0,_⟩ | ⟨g',cur,ha,hb,hg,hs,hx⟩
 ·cases h0
 ·obtain rfl:g=g':=by simpa using ha
  exact⟨by rw[hg.cell,hx i hi j hj],hg.free _,hb,hg.lt⟩
theorem Own.store1{α:Type}{w:World}{base E size g n cap:Nat}{enc:α→List Value}{xs:List α}(h:Own w base E size enc (.slice (some ⟨g,0,none⟩) n cap) xs){i j:Nat}(hi:i<xs.length)(hj:j<size)(y:α)(v:Value)
  (hy:∀ k,k<size→(enc y)[k]?=if k=j then some v else (enc xs[i])[k]?):Own (w.setCell ⟨g,i*size+j,none⟩ v) base E size enc (.slice (some ⟨g,0,none⟩) n cap) (xs.set i y):=by
 obtain⟨a,cap',hv,hle,hm,hh⟩:=h
 obtain⟨rfl,hn,rfl⟩:=Value.slice.inj hv
 rcases hh with⟨h0,_⟩ | ⟨g',cur,ha,hb,hg,hs,hx⟩
 ·cases h0
 ·obtain rfl:g=g':=by simpa using ha
  refine⟨_,cap,by rw[List.length_set,hn],by rwa[List.length_set],hm,.inr ⟨g,_,rfl,hb,hg.set _ _,by simpa using hs,fun i' hi' k hk=>?_⟩⟩
  rw[List.length_set] at hi'
  have hlt:i*size+j<cur.size:=by rw[hs];exact Nat.lt_of_lt_of_le (Nat.add_lt_add_left hj _) (by rw[←Nat.succ_mul];exact Nat.mul_le_mul_right _ (by omega))
  rw[Array.getElem?_setIfInBounds]
  by_cases e:i=i'
  ·subst e
   rw[List.getElem_set_self,hy k hk]
   by_cases e2:k=j
   ·subst e2;rw[if_pos rfl,if_pos hlt,if_pos rfl]
   ·rw[if_neg (by omega),if_neg e2,hx i hi k hk]
  ·rw[List.getElem_set_ne e,if_neg,hx i' hi' k hk]
   intro e2
   rcases Nat.lt_or_gt_of_ne e with h1 | h1
   ·have:=Nat.mul_le_mul_right size (show i+1≤i' by omega);rw[Nat.succ_mul] at this;omega
   ·have:=Nat.mul_le_mul_right size (show i'+1≤i by omega);rw[Nat.succ_mul] at this;omega
end
section
open Go.RowKit
end
section
open Go.RowKit
end
section
open Go.RowKit
def ends(s:aA)(j:Nat):Bool:=decide (j=255)||!mem s (j+1)
end
section
open Go.RowKit Go.Shelf
attribute [local go_sem] Oper.semAt_some
def ahy(b:Nat)(w:World)(pre:List Nat)(W:World):Prop:=Box W (b+1) #[.int .i64 0] 3∧pre=[]∧Below b w W
def ahz(b:Nat)(w:World)(c:Code)(pre:List Nat)(W:World):Prop:=c=.ret∧∃ x:Nat,pre=[x]∧Box W (b+1) #[.int .i64 (wrap64 x)] 3∧Below b w W
set_option maxRecDepth 100000 in
theorem XT(s:aA)(w:World)(hT:Tab w):Calls Tryz.prog 151 #[.agg (eY s)] w (bM w (.int .i64 (leastOf s))):=by
 have hle:=Qh s
 have hlt:=fun x=>@acB s x
 have hN:=agx s
 refine(callsIn_wide (n:=6)).1 ?_
 refine callsIn_of_wp_marks Tryz.func151 rfl trivial ?_ rfl
 simp only[Tryz.ntmps151,List.size_toArray,List.length_cons,List.length_nil,Nat.reduceAdd,Nat.reduceSub,Array.replicate_succ,Array.replicate_zero,List.push_toArray,List.append_toArray,List.nil_append,List.cons_append]
 gi_wp2_with (refine⟨trivial,?_⟩;gi_at_call 201;refine(callsIn_wide.2 (hN _)).mono ?_;rintro e w' ⟨rfl,rfl⟩)
 obtain⟨W0,hW0⟩:∃ W0,(((w.alloc (.cells (eY s) 149)).alloc (.cells #[.int .i64 0] 3)).alloc (.cells (eY s) 149))=W0:=⟨_,rfl⟩
 have hB0:Below w.heap.size w W0:=by rw[←hW0];go_grown
 have hsz0:W0.heap.size=w.heap.size+1+1+1:=by rw[←hW0];simp
 have hbt:Box W0 (w.heap.size+1+1) (eY s) 149:=by rw[←hW0];exact Box.new' (by simp) _ _
 have hn0:Box W0 (w.heap.size+1) #[.int .i64 0] 3:=by rw[←hW0];exact(Box.new' (by simp) _ _).alloc _
 rw[hW0]
 clear hW0
 have hpos:=hT.pos
 have hst:=XR 5 (w.heap.size+1+1) (fun b=>b=w.heap.size+1) s W0 (by omega) (hT.kept hB0) hbt
 refine wpIn_rangeFunc_ownF rfl (by decide) (gf:=243) (lb:=#[.pointer (some ⟨w.heap.size+1+1,0,none⟩)]) rfl trivial (enters_of Tryz.func243 (by kernel_rfl) rfl)
  hst (fun h k=>h.trans k) Hr (Below.refl _ _) (fun _=>rfl)
  (ahy w.heap.size w) (ahz w.heap.size w)
  (OwnFrom.and (iF _ _ _ _) (OwnFrom.and (fun _ _ _ _ h _ _=>h) (ownFrom_below (Nat.le_refl _) (by omega))))
  (fun _=>fun pre W W' row ⟨h1,x,h2,h3,h4⟩ hg hr=>⟨h1,x,h2,iF _ _ _ (fun _:Unit=>#[.int .i64 (wrap64 x)]) () W W' row h3 hg hr,ownFrom_below (β:=Unit) (Nat.le_refl _) (by omega) () W W' row h4 hg hr⟩) ⟨hn0,rfl,hB0⟩
  (fun x=>{ tmps:=#[.agg (eY s),.pointer (some ⟨w.heap.size,0,none⟩),.pointer (some ⟨w.heap.size+1,0,none⟩),.int .u8 (x:Nat),.agg (eY s),.func (.func 243) #[] #[.pointer (some ⟨w.heap.size+1+1,0,none⟩)],.int .u8 (x:Nat),undef,undef],defers:=[] }) ?assign ?body ?done ?stop
 case assign =>
  intro l x W K hK
  dsimp only[Ro]
  go_simp
  gi_wp2
  exact hK
 case body =>
  rintro l pre x W ⟨hb,rfl,hB⟩ hlt
  have c0:=hb.cell 0
  have f0:=hb.free 0
  gi_wp2
  exact⟨KeepsOthers.setCell _ _ _,rfl,x,rfl,hb.set 0 _,hB.setCell (by simp) _⟩
 case done =>
  rintro D ys W hD rfl ⟨hb,hys,hB⟩ hK
  have c0:=hb.cell 0
  have f0:=hb.free 0
  rw[hys] at hle
  gi_wp2
  have hK':=(KeepsOthers.setCell W ⟨w.heap.size+1,0,none⟩ (.int .i64 (-1))).same D _ hK rfl
  refine⟨by simp,.inl ⟨_,_,rfl,run_takeDeferred hK',?_⟩⟩
  have hc5:=(iF W0.heap.size (w.heap.size+1) 3 (fun _:Unit=>#[.int .i64 (-1)]) () _ _ (some D) (hb.set 0 (.int .i64 (-1))) (grownBy_putObj' _ D (.deferred none)) (fun r e=>by cases e;exact⟨by omega,_,hK',rfl⟩)).cell 0
  refine⟨.int .i64 (-1),?_,rfl,(hB.setCell (p:=⟨w.heap.size+1,0,none⟩) (by simp) _).trans (belowK_b (w:=w) (Nat.le_refl _) _ D _ _ (by omega) hK' rfl rfl)⟩
  simp[results,Tryz.f151,go_sem,hc5]
 case stop =>
  rintro D c pre W hD hpre ⟨rfl,x,rfl,hb,hB⟩ hK
  obtain⟨r,hr⟩:=hpre
  have hx:=hlt x (by rw[←hr];simp)
  have hw:wrap64 (x:Int)=(x:Nat):=by unfold wrap64;omega
  rw[hw] at hb
  rw[←hr] at hle
  gi_wp2
  refine⟨by simp,.inl ⟨_,_,rfl,run_takeDeferred hK,?_⟩⟩
  have hc5:=(iF W0.heap.size (w.heap.size+1) 3 (fun _:Unit=>#[.int .i64 (x:Nat)]) () _ _ (some D) hb (grownBy_putObj' _ D (.deferred none)) (fun r e=>by cases e;exact⟨by omega,_,hK,rfl⟩)).cell 0
  refine⟨.int .i64 (x:Nat),?_,by rw[hle];rfl,hB.trans (belowK_b (w:=w) (Nat.le_refl _) W D _ _ (by omega) hK rfl rfl)⟩
  simp[results,Tryz.f151,go_sem,hc5]
end
section
open Go.RowKit
theorem ac7:eu Tryz.prog 35 5 (.int .u8 0) 1 1:=⟨Tryz.underlying35,info_parts (by kernel_rfl),rfl,by decide⟩
theorem ZY{R:Nat→Nat→Bool}(E:yT R)(k:Nat)(hk:k<(lV R 256).length)(hk2:k<(aJ R 256).length):leastOf (lV R 256)[k]=((aJ R 256)[k]:Nat):=by
 simp only[lV,List.getElem_map]
 exact Zv E (Nat.le_refl _) (List.getElem_mem hk2)
theorem Rw(f:Nat→Nat)(w:World)(hT:Tab w) :
  Calls Tryz.prog 102 #[.agg (aP f)] w (gV w 5 1 iG (aJ (aX (bJ f)) 256)):=by
 have hE:=o7 (bJ f)
 have hS:=XI f
 have hl:=mW (aX (bJ f)) 256
 have hat:=ZY hE
 have hlt:=fun x=>lU (aX (bJ f)) 256 x
 have hm:=jW (aX (bJ f)) 256
 have hw:=nJ (aX (bJ f))
 rw[hw] at hl
 generalize lV (aX (bJ f)) 256=L at *
 generalize aJ (aX (bJ f)) 256=xs at *
 obtain⟨m,hxm⟩:∃ m,xs.length=m:=⟨_,rfl⟩
 rw[hxm] at hl hm
 have HS:=ah hS
 have HL:=ah hl
 have HA:=ah hat
 have HX:=ah hlt
 have HM:=ah hxm
 have HT:=ah hT
 clear hE hS hl hat hlt hw hxm hT
 go_enter Tryz.func102,Tryz.ntmps102
 go_wp2_with (first | (refine wpList_load_row rfl 22 (.tmp 1) rfl _ rfl _ _ _ _ (Box.new _ _ _) Tryz.underlying22 rfl (aV _) ?_) | (go_at_call 150;go_must (refine(HS.out _).mono ?_;intro e w1 h1;obtain⟨a1,cap1,rfl,o1,hb1⟩:=h1;rw[HL.out] at o1 ⊢)))
 have hB1:Below w.heap.size w w1:=(aj w _).trans (hb1.mono (by simp))
 have hT1:=HT.out.kept hB1
 have hs1:=o1.slice wZ
 obtain⟨b,o,hlen,hcap,hcap',ha,hbl,hcell⟩:=ak.sets hs1
 have HC:=ah hcell
 have HA1:=ah ha
 have HT1:=ah hT1
 have hsz:=hB1.size
 clear hcell ha hlen hs1 o1 hb1 hT1 hbl
 go_loopw [3,9] (fun v i wr=>∃ (k:Nat) (a:Option Addr) (cap:Nat),k≤m∧i=.int .i64 k∧v=.slice a k cap∧Own wr w1.heap.size 5 1 iG (.slice a k cap) (xs.take k)∧Below w1.heap.size w1 wr) (fun _ i _=>m - (intOf i).toNat)
 case atStart=>exact⟨0,none,0,Nat.zero_le _,rfl,rfl,Own.nil _ _ _ _ _,Below.refl _ _⟩
 case round =>
  obtain⟨k,a,cap,hk,rfl,rfl,hown,hB⟩:=hrel
  by_cases hlt:k<m
  ·have hk2:k<L.length:=by rw[HL.out];exact hlt
   have hk3:k<xs.length:=by rw[HM.out];exact hlt
   have hl1:=HA.out k hk2 hk3
   have hx:=HX.out _ (List.getElem_mem hk3)
   obtain rfl:=HA1.out k hk2
   obtain⟨c0,c1,c2,c3⟩:=HC.out k hk2 wr hB
   have htk:xs.take (k+1)=xs.take k++[xs[k]]:=List.take_succ_eq_append_getElem hk3
   have hln:(xs.take k).length=k:=by rw[List.length_take];omega
   have hle:=fun w hT=>XT L[k] w hT
   rw[hl1] at hle
   generalize xs[k]=x at *
   generalize xs.take k=ys at *
   generalize L[k]=s at *
   have VY:=ah hle
   have uz:=ah htk
   have uY:=ah hln
   have arf:ys.length≤256:=by omega
   have hu8:IntKind.u8.wrap (x:Int)=(x:Int):=nI x hx
   clear hl1 htk hln hle
   have hk0:(0:Int)≤(k:Int):=by omega
   have hkm:(k:Int)<(m:Int):=by omega
   go_wp2_with (first | (go_at_call 151;go_must (refine(VY.out _ (HT1.out.kept (hB.alloc hB.size _))).mono ?_;rintro e w5 ⟨rfl,hb5⟩;have hown5:=(hown.alloc (.cells (eY s) 149)).kept hb5)) | (at_builtin;go_must (refine fG rfl _ _ 35 rfl ac7 NJ rfl (hown5.alloc _) ⟨w5.heap.size,0,none⟩ 1 x rfl (cu w5 [.int .u8 (x:Nat)] _) (by simp[maxLen];omega) (by omega) (by have:=hb5.size;have:=hB.size;simp at *;omega) ?_;intro a' cap' W' hown' hg)))
   rw[uY.out] at hown' ⊢
   go_roundw
   case rel =>
    refine⟨k+1,a',cap',hlt,by go_num,rfl,by rw[uz.out];exact hown',?_⟩
    have h6:=(hB.alloc hB.size (.cells (eY s) 149)).trans (hb5.mono (by have:=hB.size;simp;omega))
    have h7:=h6.alloc h6.size (.cells #[.int .u8 (x:Nat)] 5)
    exact below_grown h7 (hown5.alloc _) hg (Nat.le_refl _) h7.size
   case measure=>simp[intOf];omega
  ·obtain rfl:k=m:=by omega
   have htk:xs.take k=xs:=List.take_of_length_le (by rw[HM.out];omega)
   go_wp2
   go_ret
   rw[htk] at hown
   exact⟨a,cap,by rw[HM.out];rfl,by rw[HM.out];exact hown.mono hsz,hB1.trans (hB.mono hsz)⟩
end
section
open Go.RowKit Go.Shelf
attribute [local go_sem] Oper.semAt_some
mutual
def jl:Vt→List Vt
 | .mk k s a cap kids lo hi=>.mk k s a cap kids lo hi::gZ kids
def gZ:List Vt→List Vt
 | []=>[]
 | a::l=>jl a++gZ l
end
theorem FC(l m:List Vt):gZ (l++m)=gZ l++gZ m:=by
 induction l with
 | nil=>simp[gZ]
 | cons a l ih=>simp[gZ,ih]
theorem XU(l:List Vt)(j:Nat)(h:j<l.length):gZ (l.take (j+1))=gZ (l.take j)++jl l[j]:=by
 rw[List.take_succ_eq_append_getElem h,FC];simp[gZ]
theorem Vb(l:List Vt)(j:Nat)(h:j<l.length):gZ l=gZ (l.take j)++(jl l[j]++gZ (l.drop (j+1))):=by
 have:l=l.take j++(l[j]::l.drop (j+1)):=by simp
 have e:=congrArg gZ this
 rw[FC] at e
 simpa [gZ] using e
theorem ac8:∀ V:Vt,(jl V).length=sizeT V.tr:=by
 refine Vt.ind fun k s a cap kids lo hi ih=>?_
 rw[Vt.jI]
 have key:∀ l:List Vt,(∀ i (h:i<l.length),(jl l[i]).length=sizeT (Vt.tr l[i]))→(gZ l).length=pU (l.map Vt.tr):=by
  intro l
  induction l with
  | nil=>intro _;rfl
  | cons a l ihl =>
   intro h
   have h0:=h 0 (by simp)
   have h1:=ihl fun i hi=>h (i+1) (Nat.succ_lt_succ hi)
   simp only[List.getElem_cons_zero] at h0
   simp[gZ,pU,h0,h1]
 simp[jl,sizeT,key kids ih];omega
theorem Lies.Hu{X:Nat→Prop}{w w':World}{V:Vt}(h:Lies w V)(ho:On (fun b=>¬ X b) V)(hk:aS X w w'):Lies w' V:=by
 induction h with
 | mk k s a cap kids lo hi h1 h2 h3 hs _ ih =>
  cases ho with
  | mk _ _ _ _ _ _ _ g1 g2=>exact .mk k s a cap kids lo hi h1 h2 h3 (hk.slice hs g1) fun i hi=>ih i hi (g2 i hi)
theorem On.open{S:Nat→Prop}{k:Int}{s:aA}{a:Option Addr}{cap:Nat}{kids:List Vt}{lo hi:Int}(h:On S (.mk k s a cap kids lo hi)):(0<kids.length→∀ ad,a=some ad→S ad.block)∧∀ i (h:i<kids.length),On S kids[i]:=by
 cases h with
 | mk _ _ _ _ _ _ _ g1 g2=>exact⟨g1,g2⟩
abbrev Qw(x:Vt):Array Value:=#[.agg x.cells.toArray]
def JI(X:Nat→Prop)(J Jx:List Vt→World→Prop)(pre q:List Vt)(W:World)(e:Ending)(W':World):Prop :=
 (e=.returned (.bool true)∧J (pre++q) W'∧aS X W W')∨(e=.returned (.bool false)∧∃ r,r <+: q∧Jx (pre++r) W')
def agy(X:Nat→Prop)(J:List Vt→World→Prop)(kids:List Vt)(pre:List Vt)(W wr:World)(i:Value):Prop :=
 ∃ j:Nat,j≤kids.length∧i=.int .i64 j∧J (pre++gZ (kids.take j)) wr∧aS X W wr
set_option maxRecDepth 100000 in
theorem NV(F:Fence)(hd:F.depth=none)(hF:F.fn 226)(hro:F.round=none)(l N Bx:Nat)(X:Nat→Prop)(hX:∀ b,X b→b<Bx)(J Jx:List Vt→World→Prop)(hJ:AbidesFrom Bx J)
  (hY:∀ m pre x W,J pre W→pre.length<N→YieldAt F m Tryz.prog l (Qw x) W fun e W'=>(e=.returned (.bool true)∧J (pre++[x]) W'∧aS X W W')∨(e=.returned (.bool false)∧Jx (pre++[x]) W')) :
  ∀ (V:Vt) (n:Nat) (pre:List Vt) (W:World),Lies W V→On (fun b=>¬ X b) V→Bx≤W.heap.size→J pre W→pre.length+(jl V).length≤N →
   CallsIn F n Tryz.prog 226 #[.agg V.cells.toArray,.func (.yield l) #[] #[]] W (JI X J Jx pre (jl V) W):=by
 refine Vt.ind fun k s a cap kids lo hi ih n pre W hL hO hB hJ0 hN=>?_
 have hdd:∀ k:Nat,(F.depth.isSome=true→1≤k):=fun k h=>by rw[hd] at h;cases h
 have hb1:=(Below.refl W.heap.size W).alloc (Nat.le_refl _) (.cells (aC k s a kids.length cap lo hi).toArray 151)
 have hJ1:=Fz hJ hJ0 hb1
 have hbx:=Box.new W (aC k s a kids.length cap lo hi).toArray 151
 have hk1:aS X W (W.alloc (.cells (aC k s a kids.length cap lo hi).toArray 151)):=aS.below hb1
 have hNX:¬ X W.heap.size:=fun h=>by have:=hX _ h;omega
 simp only[jl,List.length_cons] at hN
 have FB:=hY (n - 1) pre (.mk k s a cap kids lo hi) _ hJ1 (by omega)
 change YieldAt F (n - 1) Tryz.prog l #[.agg (aC k s a kids.length cap lo hi).toArray] _ _ at FB
 obtain⟨fn,tmps,assign,body,hy,hR⟩:=FB
 obtain⟨_,_,_,sA,lA⟩:=hL.open
 obtain⟨oA,XV⟩:=hO.open
 have HY:=ah hy
 change CallsIn _ _ _ _ #[.agg (aC k s a kids.length cap lo hi).toArray,_] _ _
 refine callsIn_of_wp Tryz.func226 rfl hF ?_ hro
 simp only[Tryz.ntmps226,List.size_toArray,List.length_cons,List.length_nil,Nat.reduceAdd,Nat.reduceSub,Array.replicate_succ,Array.replicate_zero,List.push_toArray,List.append_toArray,List.nil_append,List.cons_append]
 gi_wp2_with ((try refine⟨hdd _,?_⟩);refine hR.mono ?_;clear hR)
 rintro e W2 (⟨rfl,hJ2,hk2⟩ | ⟨rfl,hx2⟩)
 ·have hk3:=hk1.trans hk2
  have hb2:=hk2.box hNX hbx
  obtain⟨p0,p1,p2,p3,p4,p5,p6,p7⟩:=hb2.node
  have hB2:Bx≤W2.heap.size:=Nat.le_trans hB hk3.size
  have s2:=hk3.slice sA oA
  have HL:=ah fun i (h:i<kids.length)=>(lA i h).Hu (XV i h) hk3
  have HI:=ah ih
  have HO:=ah XV
  have HA:=ah oA
  have hfin:∀ e W',((e=.returned (.bool true)∧J (pre++[Vt.mk k s a cap kids lo hi]++gZ kids) W'∧aS X W2 W')∨(e=.returned (.bool false)∧∃ r,r <+: gZ kids∧Jx (pre++[Vt.mk k s a cap kids lo hi]++r) W'))→JI X J Jx pre (jl (.mk k s a cap kids lo hi)) W e W':=fun e W' h=>by
   rcases h with⟨h1,h2,h3⟩ | ⟨h1,r,h2,h3⟩
   ·exact .inl ⟨h1,by simpa [jl] using h2,hk3.trans h3⟩
   ·exact .inr ⟨h1,Vt.mk k s a cap kids lo hi::r,by simpa [jl] using h2,by simpa using h3⟩
  have HF:=ah hfin
  have hlen:(pre++[Vt.mk k s a cap kids lo hi]).length+(gZ kids).length≤N:=by simp only[List.length_append,List.length_singleton];omega
  clear hbx hb2 sA lA ih XV hy HY hk1 hk2 hb1 hJ1 hO hL oA hfin
  generalize hp1:pre++[Vt.mk k s a cap kids lo hi]=ac9 at *
  generalize hq1:jl (Vt.mk k s a cap kids lo hi)=q1 at *
  have HP:=ah hp1
  have HQ:=ah hq1
  clear hp1 hq1
  gi_wp2
  gi_loopw [14] (fun i wr=>agy X J kids ac9 W2 wr i) (fun i _=>kids.length - (intOf i).toNat)
  case atStart=>exact⟨0,Nat.zero_le _,rfl,by simpa [gZ] using hJ2,aS.refl _ _⟩
  case round =>
   obtain⟨j,hj,rfl,wR,hkr⟩:=hrel
   by_cases hlt:j<kids.length
   ·obtain⟨b,o,c1,c2,c3,_,c5⟩:=(hkr.slice s2 HA.out).kids
    clear s2
    obtain rfl:=c3 j hlt
    have e1:=c5 j hlt wr (Below.refl _ _)
    have hb3:=(Below.refl wr.heap.size wr).alloc (Nat.le_refl _) (.cells kids[j].cells.toArray 151)
    have hJ3:=Fz hJ wR hb3
    have hk4:aS X W2 (wr.alloc (.cells kids[j].cells.toArray 151)):=hkr.trans (aS.below hb3)
    have hps:=Vb kids j hlt
    have hpt:=XU kids j hlt
    have hNj:(ac9++gZ (kids.take j)).length+(jl kids[j]).length≤N:=by
     have:=congrArg List.length hps
     simp only[List.length_append] at this ⊢
     omega
    have i1:=HI.out j hlt (n - 1) (ac9++gZ (kids.take j)) _ ((HL.out j hlt).Hu (HO.out j hlt) hk4) (HO.out j hlt) (by have:=hk4.size;omega) hJ3 hNj
    have HS:=ah hps
    have HT:=ah hpt
    clear hps hpt c5 c3
    generalize kids[j]=V at *
    obtain⟨k1,s1,a1,Bd,zh,lo1,hi1⟩:=V
    obtain⟨x0,x1,x2,x3,x4,x5,x6,x7⟩:=qX e1
    change CallsIn _ _ _ _ #[.agg (aC k1 s1 a1 zh.length Bd lo1 hi1).toArray,_] (wr.alloc (.cells (aC k1 s1 a1 zh.length Bd lo1 hi1).toArray 151)) _ at i1
    have I1:=ah i1
    clear e1 i1 hJ3 hb3
    gi_wp2_with ((try refine⟨hdd _,?_⟩);gi_at_call 226;refine I1.out.mono ?_;clear I1;rintro e W3 (⟨rfl,ZQ,hk5⟩ | ⟨rfl,r,hr,hx3⟩))
    ·go_roundw
     case rel=>exact⟨j+1,hlt,by go_num,by rw[HT.out,←List.append_assoc];exact ZQ,hk4.trans hk5⟩
     case measure=>simp[intOf];omega
    ·go_ret
     refine HF.out _ _ (.inr ⟨rfl,gZ (kids.take j)++r,?_,by rw[←List.append_assoc];exact hx3⟩)
     rw[HS.out]
     exact List.prefix_append_right_inj _ |>.2 (hr.trans (List.prefix_append _ _))
   ·obtain rfl:j=kids.length:=by omega
    rw[List.take_length] at wR
    gi_wp2
    go_ret
    exact HF.out _ _ (.inl ⟨rfl,wR,hkr⟩)
 ·gi_wp2
  go_ret
  exact .inr ⟨rfl,[Vt.mk k s a cap kids lo hi],⟨gZ kids,by simp[jl]⟩,hx2⟩
theorem Z4(F:Fence)(hd:F.depth=none)(n:Nat)(hF:F.fn 225)(hF2:F.fn 226)(hro:F.round=none)(l Bt Bx:Nat)(X:Nat→Prop)(hX:∀ b,X b→b<Bx)(J Jx:List Vt→World→Prop)(hJ:AbidesFrom Bx J)(V:Vt)
  (hY:∀ pre x W,J pre W→pre.length<(jl V).length→YieldAt F (n - 1) Tryz.prog l (Qw x) W fun e W'=>(e=.returned (.bool true)∧J (pre++[x]) W'∧aS X W W')∨(e=.returned (.bool false)∧Jx (pre++[x]) W'))
  (W:World) (hB:Bx≤W.heap.size) (hBt:Box W Bt V.cells.toArray 151) (hL:Lies W V) (hO:On (fun b=>¬ X b) V) (h0:J [] W) :
  CallsIn F n Tryz.prog 225 #[.func (.yield l) #[] #[],.pointer (some ⟨Bt,0,none⟩)] W fun e W'=>(∃ v,e=.returned v)∧((∃ ys,ys=jl V∧J ys W')∨(∃ pre,pre <+: jl V∧Jx pre W')):=by
 have hdd:∀ k:Nat,(F.depth.isSome=true→1≤k):=fun k h=>by rw[hd] at h;cases h
 have hp:=NV F hd hF2 hro l (jl V).length Bx X hX J Jx hJ (fun m pre x W hj hl=>ZW hd m (hY pre x W hj hl)) V (n - 1) [] W hL hO hB h0 (by simp)
 have hq:∀ e W',JI X J Jx [] (jl V) W e W'→(e=.returned (.bool true)∧J (jl V) W')∨(e=.returned (.bool false)∧∃ r,r <+: jl V∧Jx r W'):=fun e W' h=>by
  rcases h with⟨h1,h2,_⟩ | ⟨h1,r,h2,h3⟩
  ·exact .inl ⟨h1,by simpa using h2⟩
  ·exact .inr ⟨h1,r,h2,by simpa using h3⟩
 have hp2:=hp.mono hq
 clear hp hq hY hL hO h0
 generalize jl V=q at *
 obtain⟨k,s,a,cap,kids,lo,hi⟩:=V
 obtain⟨p0,p1,p2,p3,p4,p5,p6,p7⟩:=Box.node hBt
 change CallsIn _ _ _ _ #[.agg (aC k s a kids.length cap lo hi).toArray,_] _ _ at hp2
 refine callsIn_of_wp Tryz.func225 rfl hF ?_ hro
 simp only[Tryz.ntmps225,List.size_toArray,List.length_cons,List.length_nil,Nat.reduceAdd,Nat.reduceSub,Array.replicate_succ,Array.replicate_zero,List.push_toArray,List.append_toArray,List.nil_append,List.cons_append]
 gi_wp2_with ((try refine⟨hdd _,?_⟩);gi_at_call 226;refine hp2.mono ?_;clear hp2;rintro e W1 (⟨rfl,hJ1⟩ | ⟨rfl,r,hr,hx⟩))
 ·go_end0
  exact⟨⟨_,rfl⟩,.inl ⟨_,rfl,hJ1⟩⟩
 ·go_end0
  exact⟨⟨_,rfl⟩,.inr ⟨r,hr,hx⟩⟩
theorem Ve(F:Fence)(hd:F.depth=none)(n:Nat)(hF:F.fn 225)(hF2:F.fn 226)(hro:F.round=none)(Bt:Nat)(X:Nat→Prop)(V:Vt)(w:World)(hX:∀ b,X b→b<w.heap.size)
  (hBt:Box w Bt V.cells.toArray 151) (hL:Lies w V) (hO:On (fun b=>¬ X b) V) :
  SeqStopsK F n Tryz.prog 225 #[.pointer (some ⟨Bt,0,none⟩)] Qw (aS X) (fun ys=>ys=jl V) (fun pre=>pre <+: jl V) (jl V).length w:=fun l J Jx W hW hJ _ hY h0 =>
 Z4 F hd n hF hF2 hro l Bt W.heap.size X (fun b hb=>Nat.lt_of_lt_of_le (hX b hb) hW.size) J Jx hJ V hY W (Nat.le_refl _) (hBt.kept hW) (hL.kept hW) hO h0
theorem ada(V:Vt)(w:World):Calls Tryz.prog 179 #[.agg V.cells.toArray] w fun e w'=>e=.returned (.func (.func 225) #[] #[.pointer (some ⟨w.heap.size,0,none⟩)])∧w'=w.alloc (.cells V.cells.toArray 151):=by
 obtain⟨k,s,a,cap,kids,lo,hi⟩:=V
 change Calls _ _ #[.agg (aC k s a kids.length cap lo hi).toArray] _ _
 go_enter Tryz.func179,Tryz.ntmps179
 go_wp2
 go_ret
 exact⟨rfl,rfl⟩
end
section
open Go.RowKit Go.Shelf
attribute [local go_sem] Oper.semAt_some
def yH(lo hi:Int):Bool:=decide (0≤lo)&&decide (lo≤1000)&&(decide (hi=-1)||(decide (lo≤hi)&&decide (hi≤1000)))
def Z5:List Int:=[-1,0,0,0,2,2,1,1,1,1]
def iM(k:Int):Int:=if 0≤k∧k<10 then Z5.getD k.toNat (-1) else -1
def eP(k:Int)(s:aA)(n:Nat)(lo hi:Int):Bool :=
 (decide (k=3)||decide (s=0))&&(if k=9 then yH lo hi else decide (lo=0)&&decide (hi=0)) &&
  (if iM k=0 then decide (n=0) else if iM k=1 then decide (n=1) else if iM k=2 then decide (2≤n) else false)
mutual
def allT:Tr→Bool
 | .mk k s l lo hi=>eP k s l.length lo hi&&vX l
def vX:List Tr→Bool
 | []=>true
 | a::l=>allT a&&vX l
end
def iU(A:Tr):Bool:=decide (sizeT A≤4096)&&allT A
theorem Lc(lo hi:Int)(w:World):Calls Tryz.prog 227 #[.int .i64 lo,.int .i64 hi] w (bM w (.bool (yH lo hi))):=by
 go_enter Tryz.func227,Tryz.ntmps227
 go_wp2
 all_goals
  go_ret
  refine⟨congrArg (fun b=>Ending.returned (Value.bool b)) ?_,by go_grown⟩
  rw[Bool.eq_iff_iff]
  simp[yH]
  try omega
theorem Z7(n:Nat)(h:n<10):[Value.int .i64 (-1),.int .i64 0,.int .i64 0,.int .i64 0,.int .i64 2,.int .i64 2,.int .i64 1,.int .i64 1,.int .i64 1,.int .i64 1][n]?=some (.int .i64 (iM n)):=by
 match n,h with
 | 0,_=>rfl
 | 1,_=>rfl
 | 2,_=>rfl
 | 3,_=>rfl
 | 4,_=>rfl
 | 5,_=>rfl
 | 6,_=>rfl
 | 7,_=>rfl
 | 8,_=>rfl
 | 9,_=>rfl
theorem sV(k:Int)(w:World):Calls Tryz.prog 228 #[.int .i64 k] w (bM w (.int .i64 (iM k))):=by
 by_cases h0:k<0
 ·have e:iM k=-1:=by unfold iM;rw[if_neg (by omega)]
  rw[e]
  clear e
  go_enter Tryz.func228,Tryz.ntmps228
  go_wp2
  go_ret
  exact⟨rfl,by go_grown⟩
 ·by_cases h1:10≤k
  ·have e:iM k=-1:=by unfold iM;rw[if_neg (by omega)]
   rw[e]
   clear e
   go_enter Tryz.func228,Tryz.ntmps228
   go_wp2
   go_ret
   exact⟨rfl,by go_grown⟩
  ·obtain⟨n,rfl⟩:=Int.eq_ofNat_of_zero_le (show 0≤k by omega)
   have hn:n<10:=by omega
   have hg:=Z7 n hn
   generalize iM (n:Int)=z at *
   go_enter Tryz.func228,Tryz.ntmps228
   go_wp2
   go_ret
   refine⟨congrArg Ending.returned ?_,by go_grown⟩
   obtain⟨_,hz⟩:=List.getElem?_eq_some_iff.1 hg
   simp
   exact hz
theorem Vf(k:Int):iM k=-1∨iM k=0∨iM k=1∨iM k=2:=by
 unfold iM
 split
 ·rename_i h
  obtain⟨n,rfl⟩:=Int.eq_ofNat_of_zero_le h.1
  have hn:n<10:=by omega
  match n,hn with
  | 0,_ | 1,_ | 2,_ | 3,_ | 4,_ | 5,_ | 6,_ | 7,_ | 8,_ | 9,_=>decide
 ·exact .inl rfl
theorem XW(k:Int)(s:aA)(a:Option Addr)(n cap:Nat)(lo hi:Int)(w:World):Calls Tryz.prog 180 #[.agg (aC k s a n cap lo hi).toArray] w (bM w (.bool (eP k s n lo hi))):=by
 have hq:=ac3 (P:=Tryz.prog) (t:=149) (e:=147) Tryz.underlying149 Tryz.underlying147 (by kernel_rfl) s 0
 unfold oh at hq
 rw[lI] at hq
 by_cases h3:k=3
 ·subst h3
  have ar:iM 3=0:=by decide
  by_cases h1:lo=0
  ·subst h1
   by_cases h2:hi=0
   ·subst h2
    have e:eP 3 s n 0 0=((n:Int)==0):=by unfold eP;rw[ar];rw[Bool.eq_iff_iff];simp
    rw[e]
    clear e hq ar
    go_enter Tryz.func180,Tryz.ntmps180
    go_wp2_with (go_at_call 228;go_must (refine(sV 3 _).mono ?_;rintro e w1 ⟨rfl,hb⟩;rw[show iM 3=0 by decide];have x5:=((Box.new w (aC 3 s a n cap 0 0).toArray 151).kept hb).cell 5))
    go_ret
    exact⟨rfl,((Below.refl w.heap.size w).alloc (Nat.le_refl _) _).trans (hb.mono (by simp))⟩
   ·have e:eP 3 s n 0 hi=false:=by unfold eP;simp[h2]
    have g2:(hi != 0)=true:=by simpa using h2
    rw[e]
    clear e hq ar h2
    go_enter Tryz.func180,Tryz.ntmps180
    go_wp2
    go_ret
    exact⟨rfl,by go_grown⟩
  ·have e:eP 3 s n lo hi=false:=by unfold eP;simp[h1]
   have g1:(lo != 0)=true:=by simpa using h1
   rw[e]
   clear e hq ar h1
   go_enter Tryz.func180,Tryz.ntmps180
   go_wp2
   go_ret
   exact⟨rfl,by go_grown⟩
 ·have g3:(k != 3)=true:=by simpa using h3
  by_cases hs:s=0
  ·rw[decide_eq_true hs] at hq
   by_cases h9:k=9
   ·subst h9
    have ar:iM 9=1:=by decide
    cases ht:yH lo hi with
    | true =>
     have e:eP 9 s n lo hi=((n:Int)==1):=by
      unfold eP;rw[ar,ht,hs];rw[Bool.eq_iff_iff];simp;omega
     have HT:=ah ht
     rw[e]
     clear e hs h3 ar ht
     go_enter Tryz.func180,Tryz.ntmps180
     go_wp2_with (first | (go_at_call 227;go_must (refine(Lc lo hi _).mono ?_;rintro e w0 ⟨rfl,hb0⟩;rw[HT.out];have y:=(Box.new w (aC 9 s a n cap lo hi).toArray 151).kept hb0;have y0:=y.cell 0;have y5:=y.cell 5)) | (go_at_call 228;go_must (refine(sV 9 _).mono ?_;rintro e w1 ⟨rfl,hb⟩;rw[show iM 9=1 by decide];have x5:=(y.kept hb).cell 5)))
     go_ret
     exact⟨rfl,(((Below.refl w.heap.size w).alloc (Nat.le_refl _) _).trans (hb0.mono (by simp))).trans (hb.mono (by have:=hb0.size;simp at this;omega))⟩
    | false =>
     have e:eP 9 s n lo hi=false:=by unfold eP;simp[ht]
     have HT:=ah ht
     rw[e]
     clear e hs h3 ar ht
     go_enter Tryz.func180,Tryz.ntmps180
     go_wp2_with (go_at_call 227;go_must (refine(Lc lo hi _).mono ?_;rintro e w0 ⟨rfl,hb0⟩;rw[HT.out]))
     go_ret
     exact⟨rfl,((Below.refl w.heap.size w).alloc (Nat.le_refl _) _).trans (hb0.mono (by simp))⟩
   ·have g9:(k==9)=false:=by simpa using h9
    by_cases h1:lo=0
    ·subst h1
     by_cases h2:hi=0
     ·subst h2
      rcases Vf k with hz | hz | hz | hz
      ·have e:eP k s n 0 0=false:=by unfold eP;rw[hz,hs];rw[Bool.eq_iff_iff];simp[h9]
       have HZ:=ah hz
       rw[e]
       clear e hz hs h3 h9
       go_enter Tryz.func180,Tryz.ntmps180
       go_wp2_with (go_at_call 228;go_must (refine(sV k _).mono ?_;rintro e w1 ⟨rfl,hb⟩;rw[HZ.out];have x5:=((Box.new w (aC k s a n cap 0 0).toArray 151).kept hb).cell 5))
       go_ret
       exact⟨rfl,((Below.refl w.heap.size w).alloc (Nat.le_refl _) _).trans (hb.mono (by simp))⟩
      ·have e:eP k s n 0 0=((n:Int)==0):=by unfold eP;rw[hz,hs];rw[Bool.eq_iff_iff];simp[h9]
       have HZ:=ah hz
       rw[e]
       clear e hz hs h3 h9
       go_enter Tryz.func180,Tryz.ntmps180
       go_wp2_with (go_at_call 228;go_must (refine(sV k _).mono ?_;rintro e w1 ⟨rfl,hb⟩;rw[HZ.out];have x5:=((Box.new w (aC k s a n cap 0 0).toArray 151).kept hb).cell 5))
       go_ret
       exact⟨rfl,((Below.refl w.heap.size w).alloc (Nat.le_refl _) _).trans (hb.mono (by simp))⟩
      ·have e:eP k s n 0 0=((n:Int)==1):=by unfold eP;rw[hz,hs];rw[Bool.eq_iff_iff];simp[h9];omega
       have HZ:=ah hz
       rw[e]
       clear e hz hs h3 h9
       go_enter Tryz.func180,Tryz.ntmps180
       go_wp2_with (go_at_call 228;go_must (refine(sV k _).mono ?_;rintro e w1 ⟨rfl,hb⟩;rw[HZ.out];have x5:=((Box.new w (aC k s a n cap 0 0).toArray 151).kept hb).cell 5))
       go_ret
       exact⟨rfl,((Below.refl w.heap.size w).alloc (Nat.le_refl _) _).trans (hb.mono (by simp))⟩
      ·have e:eP k s n 0 0=decide (2≤(n:Int)):=by unfold eP;rw[hz,hs];rw[Bool.eq_iff_iff];simp[h9];omega
       have HZ:=ah hz
       rw[e]
       clear e hz hs h3 h9
       go_enter Tryz.func180,Tryz.ntmps180
       go_wp2_with (go_at_call 228;go_must (refine(sV k _).mono ?_;rintro e w1 ⟨rfl,hb⟩;rw[HZ.out];have x5:=((Box.new w (aC k s a n cap 0 0).toArray 151).kept hb).cell 5))
       go_ret
       exact⟨rfl,((Below.refl w.heap.size w).alloc (Nat.le_refl _) _).trans (hb.mono (by simp))⟩
     ·have e:eP k s n 0 hi=false:=by unfold eP;simp[h2,h9]
      have g2:(hi != 0)=true:=by simpa using h2
      rw[e]
      clear e hs h3 h2 h9
      go_enter Tryz.func180,Tryz.ntmps180
      go_wp2
      go_ret
      exact⟨rfl,by go_grown⟩
    ·have e:eP k s n lo hi=false:=by unfold eP;simp[h1,h9]
     have g1:(lo != 0)=true:=by simpa using h1
     rw[e]
     clear e hs h3 h1 h9
     go_enter Tryz.func180,Tryz.ntmps180
     go_wp2
     go_ret
     exact⟨rfl,by go_grown⟩
  ·have e:eP k s n lo hi=false:=by unfold eP;rw[decide_eq_false h3,decide_eq_false hs];rfl
   rw[decide_eq_false hs] at hq
   rw[e]
   clear e h3 hs
   go_enter Tryz.func180,Tryz.ntmps180
   go_wp2
   go_ret
   exact⟨rfl,by go_grown⟩
end
end Go.Proofs.YtbemonecmmnlcaaGreatDoor
