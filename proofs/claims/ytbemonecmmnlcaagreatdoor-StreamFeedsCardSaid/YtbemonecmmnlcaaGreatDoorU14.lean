/- The texts of T14, in few letters (mini.py). -/
import Derived.Test.YtbemonecmmnlcaaGreatDoorU13
set_option linter.unusedVariables false
set_option linter.unusedSimpArgs false
set_option maxRecDepth 20000
set_option maxHeartbeats 3200000
namespace Go.Proofs.YtbemonecmmnlcaaGreatDoor
section
open Go.RowKit
structure Hz(b E:Nat)(c:Array Value)(w w':World):Prop where
 only:fE b w w'
 same:Box w b c E→Box w' b c E
instance Ea (b E:Nat) (c:Array Value):jv (Hz b E c):=⟨fun a=>⟨(jT b).refl a,id⟩,fun p q r h k=>⟨(jT b).trans p q r h.only k.only,fun e=>k.same (h.same e)⟩,fun p q h=>⟨(jT b).later p q h,fun e=>e.kept h⟩⟩
theorem afq{w:World}{b:Nat}(h:Box w b bI 151):Box ((((((((w.setCell ⟨b,0,none⟩ (.int .i64 0)).setCell ⟨b,1,none⟩ (.int .u64 0)).setCell ⟨b,2,none⟩ (.int .u64 0)).setCell ⟨b,3,none⟩ (.int .u64 0)).setCell ⟨b,4,none⟩ (.int .u64 0)).setCell ⟨b,5,none⟩ (.slice none 0 0)).setCell ⟨b,6,none⟩ (.int .i64 0)).setCell ⟨b,7,none⟩ (.int .i64 0)) b bI 151 :=
 (((((((h.set 0 (.int .i64 0)).set 1 (.int .u64 0)).set 2 (.int .u64 0)).set 3 (.int .u64 0)).set 4 (.int .u64 0)).set 5 (.slice none 0 0)).set 6 (.int .i64 0)).set 7 (.int .i64 0)
theorem H6{w:World}{b:Nat}:Hz b 151 bI w ((((((((w.setCell ⟨b,0,none⟩ (.int .i64 0)).setCell ⟨b,1,none⟩ (.int .u64 0)).setCell ⟨b,2,none⟩ (.int .u64 0)).setCell ⟨b,3,none⟩ (.int .u64 0)).setCell ⟨b,4,none⟩ (.int .u64 0)).setCell ⟨b,5,none⟩ (.slice none 0 0)).setCell ⟨b,6,none⟩ (.int .i64 0)).setCell ⟨b,7,none⟩ (.int .i64 0)):=⟨vZ _ _ _ _ _ _ _ _ _ _,afq⟩
theorem fF:(Tryz.prog.info? 88).map (·.size)=some 2:=by kernel_rfl
theorem fE.low{b B:Nat}{w0 w w':World}(h:fE b w w')(hb:Below B w0 w)(h1:B≤b)(h2:B≤w.heap.size):Below B w0 w':=hb.trans ⟨h.os,h.tape,h.output,h.size,fun k hk=>h.block k (by omega) (by omega)⟩
theorem fE.box{b g E:Nat}{c:Array Value}{w w':World}(h:fE b w w')(hb:Box w g c E)(hne:g≠b):Box w' g c E:=(h.block g hb.lt hne).trans hb
def afr(Q:Exit→Act→World→Prop):Exit→Act→World→Prop
 | .panic _,_,_=>False
 | e,a,w=>Q e a w
theorem adD{P:Program}{c:Code}{Q:Exit→Act→World→Prop}{a:Act}{w:World}(h:c.wp P (afr Q) a w):c.wp P Q a w:=wp_mono h fun e a w h=>by
 cases e <;> first | exact h | exact h.elim
theorem Sm{Q:Exit→Act→World→Prop}{a:Act}{w:World}(h:Q .normal a w):afr Q .normal a w:=h
theorem Yh(k p:Int)(w:World):(Instr.typeAssert (.iface 88 (.agg #[.int .i64 k,.int .i64 p])) 20 88 false).run Tryz.prog w=.ok (.agg #[.int .i64 k,.int .i64 p]) w:=by kernel_rfl
theorem agH(b0 b1:Nat)(w:World):CallsD Tryz.prog 223 #[.pointer (some ⟨b0,0,none⟩),.pointer (some ⟨b1,0,none⟩)] .returning w fun e u' w'=>e=.returned (.tuple #[])∧u'=.returning∧w'=w:=by
 refine callsD_of_wpS Tryz.func223 rfl fun c₀ cs hu=>?_
 apply wpS_seq
 apply wpS_region
 simp[wpOpsS,go_sem,recoverD,hu,Tryz.ntmps223,Exit.thenS]
 simp only[Array.replicate_succ,Array.replicate_zero,List.push_toArray,List.append_toArray,List.nil_append,List.cons_append,List.setIfInBounds_toArray,List.set_cons_zero,List.set_cons_succ]
 refine wpS_of_wp ?_
 go_wp2
 obtain⟨fn,tm,td,df,mo,ki,ro⟩:=c₀
 obtain rfl:mo=_:=hu
 exact⟨rfl,.returning,rfl,.tuple #[],by simp[results,Tryz.f223,go_sem],rfl,rfl,rfl⟩
theorem adE(b0 b1 k p:Nat)(w:World)(h0:Box w b0 bI 151)(h1:Box w b1 #[.int .i64 0,.int .i64 0] 88)(hne:b1≠b0) :
  CallsD Tryz.prog 223 #[.pointer (some ⟨b0,0,none⟩),.pointer (some ⟨b1,0,none⟩)] (.panicking [{ v:=.iface 88 (gQ k p),recovered:=false }]) w fun e u' w' =>
  e=.returned (.tuple #[])∧u'=.panicking [{ v:=.iface 88 (gQ k p),recovered:=true }]∧Box w' b0 bI 151∧Box w' b1 #[.int .i64 k,.int .i64 p] 88∧∀ B,B≤b0→B≤b1→Below B w w':=by
 refine callsD_of_wpS Tryz.func223 rfl fun c₀ cs hu=>?_
 apply wpS_seq
 apply wpS_region
 simp[wpOpsS,go_sem,recoverD,hu,Tryz.ntmps223,Exit.thenS]
 simp only[Array.replicate_succ,Array.replicate_zero,List.push_toArray,List.append_toArray,List.nil_append,List.cons_append,List.setIfInBounds_toArray,List.set_cons_zero,List.set_cons_succ]
 refine wpS_of_wp ?_
 go_wp2_with fail
 have HF:Hid (∀ u,Later w.drew u→Box u b0 bI 151∧Box u b1 #[.int .i64 0,.int .i64 0] 88∧∀ B,B≤b0→B≤b1→Below B w u):=ah fun u hl=>⟨h0.drew.kept hl,h1.drew.kept hl,fun B p1 _=>((Below.refl B w).drew).trans (hl.mono (by have:=h0.lt;show B≤w.heap.size;omega))⟩
 clear h0 h1
 have hta:=Yh
 unfold gQ
 refine jq (R:=Later) [3,4] (by kernel_rfl) ?_
 refine pl [0,1,2] ?_
 repeat
  refine qV ?_ rfl (fun w1=>?_) ?_
  rotate_left
  ·go_simp;try with_reducible rfl
  simp only[eA,eB,eC,Act.put,eD,eE,eF]
 refine dI ?_
 refine fH (T:=[3,4]) (i:=3) (by kernel_rfl) rfl (fun w1 hl K hK=>?_)
 obtain⟨hX0,hX1,hB⟩:=HF.out w1 hl
 obtain⟨f0,f1,f2,f3,f4,f5,f6,f7⟩:=hX0.vV
 have z0:=hX0.cell 0;have z1:=hX0.cell 1;have z2:=hX0.cell 2;have z3:=hX0.cell 3;have z4:=hX0.cell 4;have z5:=hX0.cell 5;have z6:=hX0.cell 6;have z7:=hX0.cell 7
 go_simp
 refine hK.out _ _ (fun h=>absurd h (by decide)) ?_
 have hY0:=(((((((hX0.set 0 (.int .i64 0)).set 1 (.int .u64 0)).set 2 (.int .u64 0)).set 3 (.int .u64 0)).set 4 (.int .u64 0)).set 5 (.slice none 0 0)).set 6 (.int .i64 0)).set 7 (.int .i64 0)
 have Bz:=(((((((hX1.other ⟨b0,0,none⟩ (.int .i64 0) hne).other ⟨b0,1,none⟩ (.int .u64 0) hne).other ⟨b0,2,none⟩ (.int .u64 0) hne).other ⟨b0,3,none⟩ (.int .u64 0) hne).other ⟨b0,4,none⟩ (.int .u64 0) hne).other ⟨b0,5,none⟩ (.slice none 0 0) hne).other ⟨b0,6,none⟩ (.int .i64 0) hne).other ⟨b0,7,none⟩ (.int .i64 0) hne
 have hB3:∀ B,B≤b0→B≤b1→Below B w _:=fun B p1 p2=>(((((((((hB B p1 p2).setCell (p:=⟨b0,0,none⟩) p1 (.int .i64 0)).setCell (p:=⟨b0,1,none⟩) p1 (.int .u64 0)).setCell (p:=⟨b0,2,none⟩) p1 (.int .u64 0)).setCell (p:=⟨b0,3,none⟩) p1 (.int .u64 0)).setCell (p:=⟨b0,4,none⟩) p1 (.int .u64 0)).setCell (p:=⟨b0,5,none⟩) p1 (.slice none 0 0)).setCell (p:=⟨b0,6,none⟩) p1 (.int .i64 0)).setCell (p:=⟨b0,7,none⟩) p1 (.int .i64 0))
 clear hK K f0 f1 f2 f3 f4 f5 f6 f7 z0 z1 z2 z3 z4 z5 z6 z7 hX0 hX1 hB hl HF
 refine fH (T:=[3,4]) (i:=4) (by kernel_rfl) rfl (fun w1 hl K hK=>?_)
 have wW:=hY0.kept hl
 have hZ1:=Bz.kept hl
 have hB4:=fun B p1 p2=>(hB3 B p1 p2).trans (hl.mono (by have:=hY0.lt;have:=(hB3 B p1 p2).size;omega))
 have c0:=hZ1.cell 0
 have c1:=hZ1.cell 1
 have f0:=hZ1.free 0
 have f1:=hZ1.free 1
 go_simp
 refine hK.out _ _ (fun h=>absurd h (by decide)) ?_
 have hV0:=(wW.other ⟨b1,0,none⟩ (.int .i64 k) (Ne.symm hne)).other ⟨b1,1,none⟩ (.int .i64 p) (Ne.symm hne)
 have hV1:=(hZ1.set 0 (.int .i64 k)).set 1 (.int .i64 p)
 have dG:∀ B,B≤b0→B≤b1→Below B w _:=fun B p1 p2=>((hB4 B p1 p2).setCell (p:=⟨b1,0,none⟩) p2 (.int .i64 k)).setCell (p:=⟨b1,1,none⟩) p2 (.int .i64 p)
 clear hK K c0 c1 f0 f1 wW hZ1 hB4 hY0 Bz hB3 hl
 refine nK (by kernel_rfl) (fun w1 hl=>?_) _
 have hE0:=hV0.kept hl
 have hE1:=hV1.kept hl
 have hE:=fun B p1 p2=>(dG B p1 p2).trans (hl.mono (by have:=hV0.lt;omega))
 go_wp2
 exact⟨rfl,_,rfl,.tuple #[],by simp[results,Tryz.f223,go_sem],rfl,rfl,hE0,hE1,hE⟩
theorem Eb{W:World}{b0 b1:Nat}{c0 c1:Array Value}{tmps:Array Value}(h0:Box W b0 c0 151)(e0:c0.size=8)(h1:Box W b1 c1 88)(e1:c1.size=2)(t2:tmps.getD 2 undef=.pointer (some ⟨b0,0,none⟩))(t3:tmps.getD 3 undef=.pointer (some ⟨b1,0,none⟩)) :
  (results Tryz.f178 tmps).run Tryz.prog W=.ok (.tuple #[.agg c0,.agg c1]) W:=by
 have t2':tmps[2]?.getD undef=.pointer (some ⟨b0,0,none⟩):=by simpa using t2
 have t3':tmps[3]?.getD undef=.pointer (some ⟨b1,0,none⟩):=by simpa using t3
 have hl:=run_loadVar_row (P:=Tryz.prog) W b0 151 151 c0 (0,0) _ h0 Tryz.underlying151 rfl (by rw[e0];kernel_rfl)
 have h2:=run_loadVar_row (P:=Tryz.prog) W b1 88 88 c1 (0,0) _ h1 Tryz.underlying88 rfl (by rw[e1];kernel_rfl)
 simp[results,Tryz.f178,t2',t3',asAddr,hl,h2]
def Ah(N:Nat)(L:List Lx):Option (Sum (Nat×Nat) Tr):=if 1024<L.length then some (.inl (4,(L.getD 1024 ⟨0,0,0,0,0⟩).at')) else (jc N 0 [] L).map fun r=>match r with | .inl q=>.inl q | .inr (x,_)=>.inr x
def H8(w:World)(ans:Sum (Nat×Nat) Tr)(e:Ending)(w':World):Prop:=Below w.heap.size w w'∧match ans with
 | .inl q=>e=.returned (.tuple #[.agg bI,gQ q.1 q.2])
 | .inr x=>∃ V:Vt,e=.returned (.tuple #[.agg V.cells.toArray,gQ 0 0])∧V.tr=x∧Lies w' V∧On (fun b=>w.heap.size≤b) V
theorem Ql(N:Nat)(hN:N≤1099511627776)(a:Option Addr)(cap n:Nat)(L:List Lx)(w:World)(h:ak w (.slice a n cap) 8 gJ L)(ha:∀ ad,a=some ad→ad.block<w.heap.size)(hR:∀ x∈L,qx x)(ans:Sum (Nat×Nat) Tr)(hans:Ah N L=some ans) :
  Calls Tryz.prog 178 #[.slice a n cap] w (H8 w ans):=by
 have hmf:∀ (fn:Fn) (first cap:Array Value) (w:World),(Instr.makeFunc fn first cap).run Tryz.prog w=.ok (.func fn first cap) w:=fun _ _ _ _=>rfl
 have hB0:Below w.heap.size w ((w.alloc (.cells bI 151)).alloc (.cells #[.int .i64 0,.int .i64 0] 88)):=((Below.refl _ w).alloc (Nat.le_refl _) _).alloc (by simp) _
 have hx0:Box ((w.alloc (.cells bI 151)).alloc (.cells #[.int .i64 0,.int .i64 0] 88)) w.heap.size bI 151:=(Box.new' rfl _ _).alloc _
 have hx1:Box ((w.alloc (.cells bI 151)).alloc (.cells #[.int .i64 0,.int .i64 0] 88)) (w.heap.size+1) #[.int .i64 0,.int .i64 0] 88:=Box.new' (by simp) _ _
 have hrd:=Vk a cap n L _ (h.kept hB0) hR
 unfold Ah at hans
 by_cases hbig:1024<L.length
 ·rw[if_pos hbig] at hans
  obtain rfl:=Option.some.inj hans
  rw[if_pos hbig] at hrd
  generalize (L.getD 1024 ⟨0,0,0,0,0⟩).at'=IV at *
  have HR:=ah hrd
  clear hans hbig hrd h ha hR
  go_enter_defers Tryz.func178,Tryz.ntmps178
  go_wp2_with (go_at_call 222;go_must (refine HR.out.mono ?_;rintro e w1 ⟨rfl,hb1⟩;have hX0:=hx0.kept hb1;have hX1:=hx1.kept hb1;unfold gQ))
  have hY:=Box.new w1 #[.int .i64 4,.int .i64 IV] 88
  have hB1:=(hB0.trans (hb1.mono hB0.size)).trans ((aj w1 (.cells #[.int .i64 4,.int .i64 IV] 88)).mono (hB0.trans (hb1.mono hB0.size)).size)
  have FV:=hX0.alloc (.cells #[.int .i64 4,.int .i64 IV] 88)
  have FW:=hX1.alloc (.cells #[.int .i64 4,.int .i64 IV] 88)
  have hz1:=hX1.lt
  have hzw:w1.heap.size<(w1.alloc (.cells #[.int .i64 4,.int .i64 IV] 88)).heap.size:=by simp
  generalize (w1.alloc (.cells #[.int .i64 4,.int .i64 IV] 88))=W2 at *
  have HF:Hid (∀ u,Hz w.heap.size 151 bI W2.drew u→Box u w1.heap.size #[.int .i64 4,.int .i64 IV] 88∧Box u w.heap.size bI 151∧Box u (w.heap.size+1) #[.int .i64 0,.int .i64 0] 88∧Below w.heap.size w u):=ah fun u hl =>
   ⟨hl.only.box hY.drew (by omega),hl.same FV.drew,hl.only.box FW.drew (by omega),hl.only.low (hB1.trans (Below.refl _ _).drew) (Nat.le_refl _) (by show w.heap.size≤W2.heap.size;omega)⟩
  clear hY hB1 FV FW hX0 hX1 hb1 HR hx0 hx1 hB0
  refine adD ?_
  refine aH (R:=Hz w.heap.size 151 bI) 3 (by kernel_rfl) ?_
  refine kR (t:=3) (i:=1) rfl (by kernel_rfl) (by kernel_rfl) (by kernel_rfl) (by kernel_rfl) (fun _ _ _ h=>h) (by rfl) (fun w1 hl=>fM 88 _ rfl _ rfl ((HF.out w1 hl).1) Tryz.underlying88 rfl (fF)) ?_
  simp only[eA,eB,eC,Act.put,eD,eE,eF]
  refine iZ 0 ?_ rfl (fun w1 hl=>?_) ?_
  rotate_left
  ·skip;go_simp;try with_reducible rfl
  simp only[eA,eB,Act.put,eD,eE,eF]
  refine aW (t:=3) (i:=2) (by kernel_rfl) rfl (fun w1 hl K hK=>?_)
  obtain⟨_,hX0,_,_⟩:=HF.out w1 hl
  obtain⟨f0,f1,f2,f3,f4,f5,f6,f7⟩:=hX0.vV
  have z0:=hX0.cell 0;have z1:=hX0.cell 1;have z2:=hX0.cell 2;have z3:=hX0.cell 3;have z4:=hX0.cell 4;have z5:=hX0.cell 5;have z6:=hX0.cell 6;have z7:=hX0.cell 7
  go_simp
  refine hK.out _ _ (fun _=>H6) ?_
  have hl2:=(Ea _ _ _).trans _ _ _ hl (H6 (w:=w1) (b:=w.heap.size))
  clear hK K hl f0 f1 f2 f3 f4 f5 f6 f7 z0 z1 z2 z3 z4 z5 z6 z7 hX0
  refine aW (t:=3) (i:=3) (by kernel_rfl) rfl (fun w1 hl K hK=>?_)
  obtain⟨_,hX0,hX1,hB⟩:=HF.out w1 ((Ea _ _ _).trans _ _ _ hl2 hl)
  have z0:=hX1.cell 0;have z1:=hX1.cell 1;have f0:=hX1.free 0;have f1:=hX1.free 1
  go_simp
  refine hK.out _ _ (fun h=>absurd rfl h) ?_
  have hY0:=(hX0.other ⟨w.heap.size+1,0,none⟩ (.int .i64 4) (by simp)).other ⟨w.heap.size+1,1,none⟩ (.int .i64 IV) (by simp)
  have Bz:=(hX1.set 0 (.int .i64 4)).set 1 (.int .i64 IV)
  have hB2:=(hB.setCell (p:=⟨w.heap.size+1,0,none⟩) (by simp) (.int .i64 4)).setCell (p:=⟨w.heap.size+1,1,none⟩) (by simp) (.int .i64 IV)
  clear hK K hl hl2 hX0 hX1 hB HF z0 z1 f0 f1
  refine aQ (by kernel_rfl) (fun w1 hl=>?_) _
  have wW:=hl.same hY0
  have hZ1:=hl.only.box Bz (by simp)
  have hB3:=hl.only.low hB2 (Nat.le_refl _) (by have:=hY0.lt;omega)
  clear hl
  refine Sm ?_
  go_wp2
  exact⟨_,Eb wW rfl hZ1 rfl rfl rfl,hB3,rfl⟩
 ·rw[if_neg hbig] at hans
  rw[if_neg hbig] at hrd
  cases hA:jc N 0 [] L with
  | none=>rw[hA] at hans;cases hans
  | some A =>
   rw[hA] at hans
   obtain rfl:=Option.some.inj hans
   have HR:=ah hrd
   have H:=ah h
   have HA:=ah hA
   clear hans hbig hrd h hA
   go_enter_defers Tryz.func178,Tryz.ntmps178
   go_wp2_with (go_at_call 222;go_must (refine HR.out.mono ?_;rintro e w1 ⟨rfl,hb1⟩;have hX0:=hx0.kept hb1;have hX1:=hx1.kept hb1;unfold gQ))
   have hB1:=hB0.trans (hb1.mono hB0.size)
   have hA1:=aj w1 (.cells #[.int .i64 0,.int .i64 0] 88)
   have hA2:=aj (w1.alloc (.cells #[.int .i64 0,.int .i64 0] 88)) (.cells #[.slice a n cap,.slice none 0 0] 309)
   have hA3:=hA1.trans (hA2.mono hA1.size)
   have dG:=hB1.trans (hA3.mono hB1.size)
   have hz1:=hX1.lt
   have hs5:((w1.alloc (.cells #[.int .i64 0,.int .i64 0] 88)).alloc (.cells #[.slice a n cap,.slice none 0 0] 309)).heap.size=w1.heap.size+1+1:=by simp
   have hP:dQ ((w1.alloc (.cells #[.int .i64 0,.int .i64 0] 88)).alloc (.cells #[.slice a n cap,.slice none 0 0] 309)) (w1.heap.size+1) (w1.heap.size+1+1) (.slice a n cap) L (.slice none 0 0) [] :=
    ⟨Box.new' (by simp) _ _,H.out.kept dG,fun ad n' c' e=>(by cases e;have:=ha ad rfl;omega),Own.nil _ _ _ _ _,hR⟩
   have FV:=hX0.kept hA3
   have FW:=hX1.kept hA3
   refine((ahY (w1.heap.size+1) (w1.heap.size+1+1) N hN).1 _ _ L [] A _ hP (by omega) (by omega) (by simp) HA.out).mono ?_
   generalize ((w1.alloc (.cells #[.int .i64 0,.int .i64 0] 88)).alloc (.cells #[.slice a n cap,.slice none 0 0] 309))=W5 at *
   intro e w6 hres
   clear hP hA1 hA2 hA3 HR H HA hx0 hx1 hB0 hX0 hX1 hb1
   cases A with
   | inl p =>
    obtain⟨hl,hk⟩:=hres
    obtain rfl:e=_:=hl
    have hY0:=hk.box FV (by omega) (fun e=>by cases e)
    have Bz:=hk.box FW (by omega) (fun e=>by cases e)
    refine leaves_cons (f:=223) (args:=#[.pointer (some ⟨w.heap.size,0,none⟩),.pointer (some ⟨w.heap.size+1,0,none⟩)]) (by simp) (by simp[go_sem]) ?_
    refine(adE w.heap.size (w.heap.size+1) p.1 p.2 w6 hY0 Bz (by omega)).mono ?_
    rintro e u' w7 ⟨rfl,rfl,hE0,hE1,hE⟩
    exact⟨_,Eb hE0 rfl hE1 rfl rfl rfl,(dG.trans (hk.low.mono (by omega))).trans (hE w.heap.size (Nat.le_refl _) (by omega)),rfl⟩
   | inr p =>
    obtain⟨x,R⟩:=p
    obtain⟨V,v6,ov6,rfl,hV,_,IW,hk,_⟩:=hres
    have hY0:=hk.box FV (by omega) (fun e=>by cases e)
    have Bz:=(hk.box FW (by omega) (fun e=>by cases e)).setRow_other (g:=w.heap.size) V.cells.toArray (by omega)
    have z0:=Bz.cell 0
    have z1:=Bz.cell 1
    have f0:=Bz.free 0
    have f1:=Bz.free 1
    go_wp2_with (refine wpList_store_row rfl 151 (.tmp 2) (.tmp _) rfl w.heap.size _ rfl rfl _ _ hY0 (bP V) (by show 8=V.cells.toArray.size;rw[List.size_toArray,Vt.bK]) V.all ?_)
    have hE0:=((hY0.setRow V.cells.toArray).other ⟨w.heap.size+1,0,none⟩ (.int .i64 0) (by simp)).other ⟨w.heap.size+1,1,none⟩ (.int .i64 0) (by simp)
    have hE1:=(Bz.set 0 (.int .i64 0)).set 1 (.int .i64 0)
    have ni:=dG.trans (hk.low.mono (by omega))
    have kM:=((below_setRow ni (Nat.le_refl _) V.cells.toArray).setCell (p:=⟨w.heap.size+1,0,none⟩) (by simp) (.int .i64 0)).setCell (p:=⟨w.heap.size+1,1,none⟩) (by simp) (.int .i64 0)
    have FU:Lies (((w6.setRow w.heap.size V.cells.toArray).setCell ⟨w.heap.size+1,0,none⟩ (.int .i64 0)).setCell ⟨w.heap.size+1,1,none⟩ (.int .i64 0)) V:=IW.lies.fJ IW.on fun b hb =>
     (heap_setCell_other _ ⟨w.heap.size+1,1,none⟩ b _ (by show b≠w.heap.size+1;omega)).trans ((heap_setCell_other _ ⟨w.heap.size+1,0,none⟩ b _ (by show b≠w.heap.size+1;omega)).trans (setRow_other w6 w.heap.size b _ (by omega)))
    refine leaves_cons (f:=223) (args:=#[.pointer (some ⟨w.heap.size,0,none⟩),.pointer (some ⟨w.heap.size+1,0,none⟩)]) (by simp) (by simp[go_sem]) ?_
    refine(agH w.heap.size (w.heap.size+1) _).mono ?_
    rintro e u' w7 ⟨rfl,rfl,rfl⟩
    exact⟨_,Eb hE0 (by rw[List.size_toArray,Vt.bK]) hE1 rfl rfl rfl,kM,V,rfl,hV,FU,IW.on.mono fun b hb=>by omega⟩
end
section
open Go.RowKit
theorem adF{N:Nat}{x:Lx}{ans:Sum (Nat×Nat) Tr}(h:Ah N [x]=some ans)(hk:x.kind=1):ans=.inr (.mk 3 x.set [] 0 0):=by
 unfold Ah at h
 rw[if_neg (by simp)] at h
 match N with
 | 0=>rw[jc] at h;cases h
 | 1=>rw[lQ,jJ] at h;cases h
 | 2=>rw[lQ,jY,kY] at h;cases h
 | 3 =>
  rw[lQ,jY,pJ,if_pos hk] at h
  dsimp only at h
  rw[jY,kY] at h;cases h
 | n+4 =>
  rw[lQ,jY,pJ,if_pos hk] at h
  dsimp only at h
  rw[jY,show(dR [] (Tr.mk 3 x.set [] 0 0)).2=[] from by rw[dR],vg] at h
  rw[show(dR [] (Tr.mk 3 x.set [] 0 0)).1=Tr.mk 3 x.set [] 0 0 from by rw[dR]] at h
  exact(Option.some.inj h).symm
theorem IX{l:List UInt8}{q:Nat×Nat}(h:jM l=.inl q):q.1≠0:=by
 have hl:∀ (n i:Nat) (acc:List Lx),lexFrom l n i acc=.inl q→q.1≠0:=by
  intro n
  induction n with
  | zero=>intro i acc h;rw[lexFrom] at h;cases h
  | succ n ih =>
   intro i acc h
   rw[lexFrom] at h
   split at h
   ·split at h
    ·rename_i q' hq
     cases h
     exact O4 (kd:=q.1) (ps:=q.2) hq
    ·exact ih _ _ h
   ·cases h
 unfold jM at h
 split at h
 ·cases h;decide
 ·exact hl _ _ _ h
theorem lS{P:Program}{fn:Func}{R:Ending→World→Prop}{a:Act}{w:World}{p q:Tmp}{ty b E Ls b2 E2:Nat}{cs cs2:Array Value}{d d2:TypeDesc}
  (hr:fn.results=#[.cell p ty,.cell q Ls]) (hp:a.tmps.getD p undef=.pointer (some ⟨b,0,none⟩)) (hq:a.tmps.getD q undef=.pointer (some ⟨b2,0,none⟩)) (hb:Box w b cs E) (hb2:Box w b2 cs2 E2)
  (hu:P.underlying ty=some d) (hd:(match d with | .struct _ | .array _ _=>true | _=>false)=true) (hi:(P.info? ty).map (·.size)=some cs.size)
  (hu2:P.underlying Ls=some d2) (hd2:(match d2 with | .struct _ | .array _ _=>true | _=>false)=true) (hi2:(P.info? Ls).map (·.size)=some cs2.size)
  (hdf:a.defers=[]) (hR:R (.returned (.tuple #[.agg cs,.agg cs2])) w):bodyPost P fn R .ret a w :=
 ⟨hdf,_,by
  have hp':a.tmps[p]?.getD undef=.pointer (some ⟨b,0,none⟩):=by simpa using hp
  have hq':a.tmps[q]?.getD undef=.pointer (some ⟨b2,0,none⟩):=by simpa using hq
  simp[results,hr,hp',hq',asAddr,run_loadVar_row w b E ty cs (0,0) d hb hu hd hi,run_loadVar_row w b2 E2 Ls cs2 (0,0) d2 hb2 hu2 hd2 hi2],hR⟩
theorem Ai{w:World}{g n cap:Nat}{x:Lx}(h:ak w (.slice (some ⟨g,0,none⟩) n cap) 8 gJ [x]):∀ j u,(gJ x)[j]?=some u→w.cell? ⟨g,j,none⟩=some u:=fun j u hu=>by
 obtain⟨b,o,_,_,_,h4,h5⟩:=h.open
 have:=h4 0 (by simp)
 simp only[Option.some.injEq,Addr.mk.injEq] at this
 obtain⟨rfl,rfl,_⟩:=this
 have:=h5 0 (by simp) j u hu
 simpa using this
theorem Ia{w W:World}{V:Vt}{x:Tr}{c:Array Value}(hB:Below w.heap.size w W)(h0:Box W w.heap.size c 151)(h1:Box W (w.heap.size+1) #[.int .i64 0,.int .i64 0] 88)(hl:Lies W V)(hon:On (fun b=>w.heap.size+1<b) V)(hx:V.tr=x) :
  Box (((W.setRow w.heap.size V.cells.toArray).setCell ⟨w.heap.size+1,0,none⟩ (.int .i64 0)).setCell ⟨w.heap.size+1,1,none⟩ (.int .i64 0)) w.heap.size V.cells.toArray 151 ∧
  Box (((W.setRow w.heap.size V.cells.toArray).setCell ⟨w.heap.size+1,0,none⟩ (.int .i64 0)).setCell ⟨w.heap.size+1,1,none⟩ (.int .i64 0)) (w.heap.size+1) #[.int .i64 0,.int .i64 0] 88 ∧
  H8 w (.inr x) (.returned (.tuple #[.agg V.cells.toArray,.agg #[.int .i64 0,.int .i64 0]])) (((W.setRow w.heap.size V.cells.toArray).setCell ⟨w.heap.size+1,0,none⟩ (.int .i64 0)).setCell ⟨w.heap.size+1,1,none⟩ (.int .i64 0)) :=
 ⟨((h0.setRow V.cells.toArray).other ⟨w.heap.size+1,0,none⟩ (.int .i64 0) (by simp)).other ⟨w.heap.size+1,1,none⟩ (.int .i64 0) (by simp),((h1.setRow_other V.cells.toArray (by omega)).set 0 (.int .i64 0)).set 1 (.int .i64 0),
  ((below_setRow hB (Nat.le_refl _) V.cells.toArray).setCell (p:=⟨w.heap.size+1,0,none⟩) (by simp) (.int .i64 0)).setCell (p:=⟨w.heap.size+1,1,none⟩) (by simp) (.int .i64 0),V,rfl,hx,
  hl.fJ hon fun b hb=>(heap_setCell_other _ ⟨w.heap.size+1,1,none⟩ b _ (by show b≠w.heap.size+1;omega)).trans ((heap_setCell_other _ ⟨w.heap.size+1,0,none⟩ b _ (by show b≠w.heap.size+1;omega)).trans (setRow_other W w.heap.size b _ (by omega))),hon.mono fun b hb=>by omega⟩
theorem N9{w W:World}{k p:Nat}{v0 v1:Value}(hB:Below w.heap.size w W)(h0:Box W w.heap.size bI 151)(h1:Box W (w.heap.size+1) #[v0,v1] 88){W8:World}(hW:W8=((((((((W.setCell ⟨w.heap.size,0,none⟩ (.int .i64 0)).setCell ⟨w.heap.size,1,none⟩ (.int .u64 0)).setCell ⟨w.heap.size,2,none⟩ (.int .u64 0)).setCell ⟨w.heap.size,3,none⟩ (.int .u64 0)).setCell ⟨w.heap.size,4,none⟩ (.int .u64 0)).setCell ⟨w.heap.size,5,none⟩ (.slice none 0 0)).setCell ⟨w.heap.size,6,none⟩ (.int .i64 0)).setCell ⟨w.heap.size,7,none⟩ (.int .i64 0))) :
  Box ((W8.setCell ⟨w.heap.size+1,0,none⟩ (.int .i64 k)).setCell ⟨w.heap.size+1,1,none⟩ (.int .i64 p)) w.heap.size bI 151∧Box ((W8.setCell ⟨w.heap.size+1,0,none⟩ (.int .i64 k)).setCell ⟨w.heap.size+1,1,none⟩ (.int .i64 p)) (w.heap.size+1) #[.int .i64 k,.int .i64 p] 88 ∧
  H8 w (.inl (k,p)) (.returned (.tuple #[.agg bI,.agg #[.int .i64 k,.int .i64 p]])) ((W8.setCell ⟨w.heap.size+1,0,none⟩ (.int .i64 k)).setCell ⟨w.heap.size+1,1,none⟩ (.int .i64 p)):=by
 have ho:=vZ w.heap.size W (.int .i64 0) (.int .u64 0) (.int .u64 0) (.int .u64 0) (.int .u64 0) (.slice none 0 0) (.int .i64 0) (.int .i64 0)
 have hz:=afq h0
 rw[←hW] at ho hz
 have h2:=ho.box h1 (by omega)
 have hB2:=ho.low hB (Nat.le_refl _) (by have:=h0.lt;omega)
 exact⟨(hz.other ⟨w.heap.size+1,0,none⟩ (.int .i64 k) (by simp)).other ⟨w.heap.size+1,1,none⟩ (.int .i64 p) (by simp),(h2.set 0 (.int .i64 k)).set 1 (.int .i64 p),(hB2.setCell (p:=⟨w.heap.size+1,0,none⟩) (by simp) (.int .i64 k)).setCell (p:=⟨w.heap.size+1,1,none⟩) (by simp) (.int .i64 p),rfl⟩
theorem xX(N:Nat)(l:List UInt8):uG N l=match jM l with
  | .inl q=>some (.inl q)
  | .inr L=>Ah N L:=rfl
theorem LD(N:Nat)(hN:N≤1099511627776)(g:Nat×Nat)(n cap:Nat)(l:List UInt8)(w:World)(h:ak w (.slice (some ⟨g.1,g.2,none⟩) n cap) 1 bf l)(hg:g.1<w.heap.size)(Sr:II l)(ans:Sum (Nat×Nat) Tr)(hans:uG N l=some ans) :
  Calls Tryz.prog 139 #[.slice (some ⟨g.1,g.2,none⟩) n cap] w (H8 w ans):=by
 have hB0:Below w.heap.size w ((w.alloc (.cells bI 151)).alloc (.cells #[.int .i64 0,.int .i64 0] 88)):=((Below.refl _ w).alloc (Nat.le_refl _) _).alloc (by simp) _
 have hx0:Box ((w.alloc (.cells bI 151)).alloc (.cells #[.int .i64 0,.int .i64 0] 88)) w.heap.size bI 151:=(Box.new' rfl _ _).alloc _
 have hx1:Box ((w.alloc (.cells bI 151)).alloc (.cells #[.int .i64 0,.int .i64 0] 88)) (w.heap.size+1) #[.int .i64 0,.int .i64 0] 88:=Box.new' (by simp) _ _
 have hsp:=aaw g n cap l _ (h.kept hB0) (by have:=hB0.size;omega) Sr
 rw[xX] at hans
 cases hlx:jM l with
 | inl q =>
  rw[hlx] at hans
  obtain rfl:=Option.some.inj hans
  have hq0:=IX hlx
  have ek:((q.1:Int) != 0)=true:=by rw[bne_iff_ne];omega
  have hsp2:Calls Tryz.prog 175 #[.slice (some ⟨g.1,g.2,none⟩) n cap] ((w.alloc (.cells bI 151)).alloc (.cells #[.int .i64 0,.int .i64 0] 88)) (bM _ (.tuple #[.slice none 0 0,gQ q.1 q.2])):=hsp.mono fun e w' ⟨h1,h2⟩=>⟨(by rw[hlx] at h2;exact h2),h1⟩
  have HR:=ah hsp2
  clear hans hlx hsp hsp2 hq0 h hg
  go_enter Tryz.func139,Tryz.ntmps139
  go_wp2_with (go_at_call 175;go_must (refine HR.out.mono ?_;rintro e w1 ⟨rfl,hb1⟩;have hX0:=hx0.kept hb1;have hX1:=hx1.kept hb1;unfold gQ))
  have hY:=Box.new w1 #[.int .i64 q.1,.int .i64 q.2] 88
  have hB1:=(hB0.trans (hb1.mono hB0.size)).trans ((aj w1 (.cells #[.int .i64 q.1,.int .i64 q.2] 88)).mono (hB0.trans (hb1.mono hB0.size)).size)
  have FV:=hX0.alloc (.cells #[.int .i64 q.1,.int .i64 q.2] 88)
  have FW:=hX1.alloc (.cells #[.int .i64 q.1,.int .i64 q.2] 88)
  have hz1:=hX1.lt
  have hzw:w1.heap.size<(w1.alloc (.cells #[.int .i64 q.1,.int .i64 q.2] 88)).heap.size:=by simp
  generalize (w1.alloc (.cells #[.int .i64 q.1,.int .i64 q.2] 88))=W2 at *
  have HF:Hid (∀ u,Hz w.heap.size 151 bI W2.drew u→Box u w1.heap.size #[.int .i64 q.1,.int .i64 q.2] 88∧Box u w.heap.size bI 151∧Box u (w.heap.size+1) #[.int .i64 0,.int .i64 0] 88∧Below w.heap.size w u):=ah fun u hl =>
   ⟨hl.only.box hY.drew (by omega),hl.same FV.drew,hl.only.box FW.drew (by omega),hl.only.low (hB1.trans (Below.refl _ _).drew) (Nat.le_refl _) (by show w.heap.size≤W2.heap.size;omega)⟩
  clear hY hB1 FV FW hX0 hX1 hb1 hx0 hx1 hB0
  refine aH (R:=Hz w.heap.size 151 bI) 3 (by kernel_rfl) ?_
  refine kR (t:=3) (i:=1) rfl (by kernel_rfl) (by kernel_rfl) (by kernel_rfl) (by kernel_rfl) (fun _ _ _ h=>h) (by rfl) (fun w1 hl=>fM 88 _ rfl _ rfl ((HF.out w1 hl).1) Tryz.underlying88 rfl (fF)) ?_
  simp only[eA,eB,eC,Act.put,eD,eE,eF]
  refine iZ 0 ?_ rfl (fun w1 hl=>?_) ?_
  rotate_left
  ·skip;go_simp;try with_reducible rfl
  simp only[eA,eB,Act.put,eD,eE,eF]
  refine aW (t:=3) (i:=2) (by kernel_rfl) rfl (fun w1 hl K hK=>?_)
  obtain⟨_,hX0,_,_⟩:=HF.out w1 hl
  obtain⟨f0,f1,f2,f3,f4,f5,f6,f7⟩:=hX0.vV
  have z0:=hX0.cell 0;have z1:=hX0.cell 1;have z2:=hX0.cell 2;have z3:=hX0.cell 3;have z4:=hX0.cell 4;have z5:=hX0.cell 5;have z6:=hX0.cell 6;have z7:=hX0.cell 7
  go_simp
  refine hK.out _ _ (fun _=>H6) ?_
  have hl2:=(Ea _ _ _).trans _ _ _ hl (H6 (w:=w1) (b:=w.heap.size))
  clear hK K hl f0 f1 f2 f3 f4 f5 f6 f7 z0 z1 z2 z3 z4 z5 z6 z7 hX0
  refine aW (t:=3) (i:=3) (by kernel_rfl) rfl (fun w1 hl K hK=>?_)
  obtain⟨_,hX0,hX1,hB⟩:=HF.out w1 ((Ea _ _ _).trans _ _ _ hl2 hl)
  have z0:=hX1.cell 0;have z1:=hX1.cell 1;have f0:=hX1.free 0;have f1:=hX1.free 1
  go_simp
  refine hK.out _ _ (fun h=>absurd rfl h) ?_
  have hY0:=(hX0.other ⟨w.heap.size+1,0,none⟩ (.int .i64 q.1) (by simp)).other ⟨w.heap.size+1,1,none⟩ (.int .i64 q.2) (by simp)
  have Bz:=(hX1.set 0 (.int .i64 q.1)).set 1 (.int .i64 q.2)
  have hB2:=(hB.setCell (p:=⟨w.heap.size+1,0,none⟩) (by simp) (.int .i64 q.1)).setCell (p:=⟨w.heap.size+1,1,none⟩) (by simp) (.int .i64 q.2)
  clear hK K hl hl2 hX0 hX1 hB HF z0 z1 f0 f1
  refine aQ (by kernel_rfl) (fun w1 hl=>?_) _
  have wW:=hl.same hY0
  have hZ1:=hl.only.box Bz (by simp)
  have hB3:=hl.only.low hB2 (Nat.le_refl _) (by have:=hY0.lt;omega)
  clear hl
  go_wp2
  exact lS Tryz.results139 rfl rfl wW hZ1 Tryz.underlying151 rfl (by kernel_rfl) Tryz.underlying88 rfl fF rfl ⟨hB3,rfl⟩
 | inr L =>
  rw[hlx] at hans
  have hR:=Sl hlx
  have hsp2:Calls Tryz.prog 175 #[.slice (some ⟨g.1,g.2,none⟩) n cap] ((w.alloc (.cells bI 151)).alloc (.cells #[.int .i64 0,.int .i64 0] 88)) (fun e w1=>∃ a c,e=.returned (.tuple #[.slice a L.length c,.agg #[.int .i64 0,.int .i64 0]])∧Own w1 ((w.alloc (.cells bI 151)).alloc (.cells #[.int .i64 0,.int .i64 0] 88)).heap.size 257 8 gJ (.slice a L.length c) L∧Below ((w.alloc (.cells bI 151)).alloc (.cells #[.int .i64 0,.int .i64 0] 88)).heap.size ((w.alloc (.cells bI 151)).alloc (.cells #[.int .i64 0,.int .i64 0] 88)) w1):=hsp.mono fun e w' ⟨h1,h2⟩=>by
   rw[hlx] at h2
   obtain⟨a,c,h3,h4⟩:=h2
   exact⟨a,c,h3,h4,h1⟩
  have HR:=ah hsp2
  have HRX:=ah hR
  have ah0:=fun a1 c1 u h1 h2=>Ql N hN a1 c1 L.length L u h1 h2 hR ans hans
  have HLX:=ah ah0
  clear ah0 hlx hsp hsp2 h hg hR
  by_cases h1:L.length=1
  ·obtain⟨x,rfl⟩:∃ x,L=[x]:=by
    match L,h1 with
    | [x],_=>exact⟨x,rfl⟩
   clear h1
   simp only[List.length_cons,List.length_nil,Nat.zero_add] at HR HLX
   by_cases hk:x.kind=1
   ·obtain⟨xk,xa,xs,xl,xh⟩:=x
    obtain rfl:xk=1:=hk
    have hone:=adF hans rfl
    by_cases hc:(elems xs).length=1
    ·subst hone
     clear HLX hans HRX
     have ec:(((elems xs).length:Int)==1)=true:=by rw[hc];rfl
     clear hc
     go_enter Tryz.func139,Tryz.ntmps139
     go_wp2_with (first | (go_at_call 175;go_must (refine HR.out.mono ?_;rintro e w1 ⟨a1,c1,rfl,ho1,hb1⟩;obtain⟨ga,rfl,hga⟩:=ho1.addr (by decide:0<1);have hsl:=ho1.slice xC;have hX0:=hx0.kept hb1;have hX1:=hx1.kept hb1;have JO:=hX0.alloc (.cells #[.int .i64 0,.int .i64 0] 88);have JQ:=hX1.alloc (.cells #[.int .i64 0,.int .i64 0] 88);have hs1:=hb1.size;have hz1:=hX1.lt;have hya:=Ai (hsl.kept (aj w1 (.cells #[.int .i64 0,.int .i64 0] 88)));have y0:=hya 0 _ rfl;have y2:=hya 2 _ rfl;have y3:=hya 3 _ rfl;have y4:=hya 4 _ rfl;have y5:=hya 5 _ rfl)) | (go_at_call 176;go_must (refine(KZ xs _).mono ?_;rintro e w2 ⟨rfl,hb2⟩;have adG:=JO.kept hb2;have Yi:=JQ.kept hb2;have yc:=Ai ((hsl.kept (aj w1 (.cells #[.int .i64 0,.int .i64 0] 88))).kept hb2);have t2:=yc 2 _ rfl;have t3:=yc 3 _ rfl;have t4:=yc 4 _ rfl;have t5:=yc 5 _ rfl)) | (go_at_call 177;go_must (refine(La xs _).mono ?_;rintro e w3 ⟨V,rfl,hV,hl3,qH,hb3⟩;have fO:=adG.kept hb3;have iw:=(Yi.kept hb3).setRow_other (g:=w.heap.size) V.cells.toArray (by omega);have q0:=iw.cell 0;have q1:=iw.cell 1;have r0:=iw.free 0;have r1:=iw.free 1)) | (refine wpList_store_row rfl 151 (.tmp 2) (.tmp _) rfl w.heap.size _ rfl rfl _ _ fO (bP V) (by show 8=V.cells.toArray.size;rw[List.size_toArray,Vt.bK]) V.all ?_))
     have hB1:=hB0.trans (hb1.mono hB0.size)
     have hB2:=hB1.trans ((aj w1 (.cells #[.int .i64 0,.int .i64 0] 88)).mono hB1.size)
     have hB3:=hB2.trans (hb2.mono hB2.size)
     have hB4:=hB3.trans (hb3.mono hB3.size)
     have hs2:=hb2.size
     rw[World.size_alloc] at hs2
     obtain⟨e0,e1,e2⟩:=Ia hB4 fO (Yi.kept hb3) hl3 (qH.mono fun b hb=>by omega) hV
     exact lS Tryz.results139 rfl rfl e0 e1 Tryz.underlying151 rfl (bP V) Tryz.underlying88 rfl fF rfl e2
    ·clear hone
     have ec:(((elems xs).length:Int)==1)=false:=by rw[beq_eq_false_iff_ne];omega
     clear hc
     go_enter Tryz.func139,Tryz.ntmps139
     go_wp2_with (first | (go_at_call 175;go_must (refine HR.out.mono ?_;rintro e w1 ⟨a1,c1,rfl,ho1,hb1⟩;obtain⟨ga,rfl,hga⟩:=ho1.addr (by decide:0<1);have hsl:=ho1.slice xC;have hX0:=hx0.kept hb1;have hX1:=hx1.kept hb1;have JO:=hX0.alloc (.cells #[.int .i64 0,.int .i64 0] 88);have JQ:=hX1.alloc (.cells #[.int .i64 0,.int .i64 0] 88);have hs1:=hb1.size;have hz1:=hX1.lt;have hya:=Ai (hsl.kept (aj w1 (.cells #[.int .i64 0,.int .i64 0] 88)));have y0:=hya 0 _ rfl;have y2:=hya 2 _ rfl;have y3:=hya 3 _ rfl;have y4:=hya 4 _ rfl;have y5:=hya 5 _ rfl)) | (go_at_call 176;go_must (refine(KZ xs _).mono ?_;rintro e w2 ⟨rfl,hb2⟩;have adG:=JO.kept hb2;have Yi:=JQ.kept hb2;have yc:=Ai ((hsl.kept (aj w1 (.cells #[.int .i64 0,.int .i64 0] 88))).kept hb2);have t2:=yc 2 _ rfl;have t3:=yc 3 _ rfl;have t4:=yc 4 _ rfl;have t5:=yc 5 _ rfl)))
     have hB1:=hB0.trans (hb1.mono hB0.size)
     have hB2:=hB1.trans ((aj w1 (.cells #[.int .i64 0,.int .i64 0] 88)).mono hB1.size)
     have hB3:=hB2.trans (hb2.mono hB2.size)
     have FX:=(hsl.kept (aj w1 (.cells #[.int .i64 0,.int .i64 0] 88))).kept hb2
     have FY:=adG
     have Aj:=Yi
     have hgl:∀ ad,some (⟨ga,0,none⟩:Addr)=some ad→ad.block<w2.heap.size:=fun ad e=>by cases e;have:=(ho1.bC ga rfl).2;have h2:=hb2.size;rw[World.size_alloc] at h2;show ga<_;omega
     have hs2:=hb2.size
     rw[World.size_alloc] at hs2
     refine(HLX.out _ _ _ FX hgl).mono ?_
     intro e w3 hres
     clear FX hgl
     cases ans with
     | inl q =>
      obtain⟨hb3,rfl⟩:=hres
      obtain⟨qk,qp⟩:=q
      have fO:=FY.kept hb3
      have iw:=Aj.kept hb3
      have q0:=iw.cell 0;have q1:=iw.cell 1;have r0:=iw.free 0;have r1:=iw.free 1
      obtain⟨f0,f1,f2,f3,f4,f5,f6,f7⟩:=fO.vV
      have z0:=fO.cell 0;have z1:=fO.cell 1;have z2:=fO.cell 2;have z3:=fO.cell 3;have z4:=fO.cell 4;have z5:=fO.cell 5;have z6:=fO.cell 6;have z7:=fO.cell 7
      unfold gQ
      go_wp2
      obtain⟨e0,e1,e2⟩:=N9 (k:=qk) (p:=qp) (hB3.trans (hb3.mono hB3.size)) fO iw rfl
      exact lS Tryz.results139 rfl rfl e0 e1 Tryz.underlying151 rfl (by kernel_rfl) Tryz.underlying88 rfl fF rfl e2
     | inr x3 =>
      obtain⟨hb3,V,rfl,hV,hl3,qH⟩:=hres
      have fO:=FY.kept hb3
      have iw:=(Aj.kept hb3).setRow_other (g:=w.heap.size) V.cells.toArray (by omega)
      have q0:=iw.cell 0;have q1:=iw.cell 1;have r0:=iw.free 0;have r1:=iw.free 1
      unfold gQ
      go_wp2_with (refine wpList_store_row rfl 151 (.tmp 2) (.tmp _) rfl w.heap.size _ rfl rfl _ _ fO (bP V) (by show 8=V.cells.toArray.size;rw[List.size_toArray,Vt.bK]) V.all ?_)
      obtain⟨e0,e1,e2⟩:=Ia (hB3.trans (hb3.mono hB3.size)) fO (Aj.kept hb3) hl3 (qH.mono fun b hb=>by omega) hV
      exact lS Tryz.results139 rfl rfl e0 e1 Tryz.underlying151 rfl (bP V) Tryz.underlying88 rfl fF rfl e2
   ·have ek:((x.kind:Int)==1)=false:=by rw[beq_eq_false_iff_ne];omega
    clear hk
    obtain⟨xk,xa,xs,xl,xh⟩:=x
    dsimp only at ek
    go_enter Tryz.func139,Tryz.ntmps139
    go_wp2_with (go_at_call 175;go_must (refine HR.out.mono ?_;rintro e w1 ⟨a1,c1,rfl,ho1,hb1⟩;obtain⟨ga,rfl,hga⟩:=ho1.addr (by decide:0<1);have hsl:=ho1.slice xC;have hX0:=hx0.kept hb1;have hX1:=hx1.kept hb1;have JO:=hX0.alloc (.cells #[.int .i64 0,.int .i64 0] 88);have JQ:=hX1.alloc (.cells #[.int .i64 0,.int .i64 0] 88);have hs1:=hb1.size;have hz1:=hX1.lt;have hya:=Ai (hsl.kept (aj w1 (.cells #[.int .i64 0,.int .i64 0] 88)));have y0:=hya 0 _ rfl;have y2:=hya 2 _ rfl;have y3:=hya 3 _ rfl;have y4:=hya 4 _ rfl;have y5:=hya 5 _ rfl))
    have hB1:=hB0.trans (hb1.mono hB0.size)
    have hB3:=hB1.trans ((aj w1 (.cells #[.int .i64 0,.int .i64 0] 88)).mono hB1.size)
    have FX:=hsl.kept (aj w1 (.cells #[.int .i64 0,.int .i64 0] 88))
    have FY:=JO
    have Aj:=JQ
    have hgl:∀ ad,some (⟨ga,0,none⟩:Addr)=some ad→ad.block<(w1.alloc (.cells #[.int .i64 0,.int .i64 0] 88)).heap.size:=fun ad e=>by cases e;have:=(ho1.bC ga rfl).2;rw[World.size_alloc];show ga<_;omega
    have hs2:w1.heap.size+1≤(w1.alloc (.cells #[.int .i64 0,.int .i64 0] 88)).heap.size:=by simp
    refine(HLX.out _ _ _ FX hgl).mono ?_
    intro e w3 hres
    clear FX hgl
    cases ans with
    | inl q =>
     obtain⟨hb3,rfl⟩:=hres
     obtain⟨qk,qp⟩:=q
     have fO:=FY.kept hb3
     have iw:=Aj.kept hb3
     have q0:=iw.cell 0;have q1:=iw.cell 1;have r0:=iw.free 0;have r1:=iw.free 1
     obtain⟨f0,f1,f2,f3,f4,f5,f6,f7⟩:=fO.vV
     have z0:=fO.cell 0;have z1:=fO.cell 1;have z2:=fO.cell 2;have z3:=fO.cell 3;have z4:=fO.cell 4;have z5:=fO.cell 5;have z6:=fO.cell 6;have z7:=fO.cell 7
     unfold gQ
     go_wp2
     obtain⟨e0,e1,e2⟩:=N9 (k:=qk) (p:=qp) (hB3.trans (hb3.mono hB3.size)) fO iw rfl
     exact lS Tryz.results139 rfl rfl e0 e1 Tryz.underlying151 rfl (by kernel_rfl) Tryz.underlying88 rfl fF rfl e2
    | inr x3 =>
     obtain⟨hb3,V,rfl,hV,hl3,qH⟩:=hres
     have fO:=FY.kept hb3
     have iw:=(Aj.kept hb3).setRow_other (g:=w.heap.size) V.cells.toArray (by omega)
     have q0:=iw.cell 0;have q1:=iw.cell 1;have r0:=iw.free 0;have r1:=iw.free 1
     unfold gQ
     go_wp2_with (refine wpList_store_row rfl 151 (.tmp 2) (.tmp _) rfl w.heap.size _ rfl rfl _ _ fO (bP V) (by show 8=V.cells.toArray.size;rw[List.size_toArray,Vt.bK]) V.all ?_)
     obtain⟨e0,e1,e2⟩:=Ia (hB3.trans (hb3.mono hB3.size)) fO (Aj.kept hb3) hl3 (qH.mono fun b hb=>by omega) hV
     exact lS Tryz.results139 rfl rfl e0 e1 Tryz.underlying151 rfl (bP V) Tryz.underlying88 rfl fF rfl e2
  ·have e1:((L.length:Int)==1)=false:=by rw[beq_eq_false_iff_ne];omega
   clear h1
   go_enter Tryz.func139,Tryz.ntmps139
   go_wp2_with (go_at_call 175;go_must (refine HR.out.mono ?_;rintro e w1 ⟨a1,c1,rfl,ho1,hb1⟩;have hsl:=ho1.slice xC;have hX0:=hx0.kept hb1;have hX1:=hx1.kept hb1;have JO:=hX0.alloc (.cells #[.int .i64 0,.int .i64 0] 88);have JQ:=hX1.alloc (.cells #[.int .i64 0,.int .i64 0] 88);have hs1:=hb1.size;have hz1:=hX1.lt))
   have hB1:=hB0.trans (hb1.mono hB0.size)
   have hB3:=hB1.trans ((aj w1 (.cells #[.int .i64 0,.int .i64 0] 88)).mono hB1.size)
   have FX:=hsl.kept (aj w1 (.cells #[.int .i64 0,.int .i64 0] 88))
   have FY:=JO
   have Aj:=JQ
   have hgl:∀ ad,a1=some ad→ad.block<(w1.alloc (.cells #[.int .i64 0,.int .i64 0] 88)).heap.size:=fun ad e=>by cases e;have:=(ho1.bC _ rfl).2;rw[World.size_alloc];omega
   have hs2:w1.heap.size+1≤(w1.alloc (.cells #[.int .i64 0,.int .i64 0] 88)).heap.size:=by simp
   refine(HLX.out _ _ _ FX hgl).mono ?_
   intro e w3 hres
   clear FX hgl
   cases ans with
   | inl q =>
    obtain⟨hb3,rfl⟩:=hres
    obtain⟨qk,qp⟩:=q
    have fO:=FY.kept hb3
    have iw:=Aj.kept hb3
    have q0:=iw.cell 0;have q1:=iw.cell 1;have r0:=iw.free 0;have r1:=iw.free 1
    obtain⟨f0,f1,f2,f3,f4,f5,f6,f7⟩:=fO.vV
    have z0:=fO.cell 0;have z1:=fO.cell 1;have z2:=fO.cell 2;have z3:=fO.cell 3;have z4:=fO.cell 4;have z5:=fO.cell 5;have z6:=fO.cell 6;have z7:=fO.cell 7
    unfold gQ
    go_wp2
    obtain⟨e0,e1,e2⟩:=N9 (k:=qk) (p:=qp) (hB3.trans (hb3.mono hB3.size)) fO iw rfl
    exact lS Tryz.results139 rfl rfl e0 e1 Tryz.underlying151 rfl (by kernel_rfl) Tryz.underlying88 rfl fF rfl e2
   | inr x3 =>
    obtain⟨hb3,V,rfl,hV,hl3,qH⟩:=hres
    have fO:=FY.kept hb3
    have iw:=(Aj.kept hb3).setRow_other (g:=w.heap.size) V.cells.toArray (by omega)
    have q0:=iw.cell 0;have q1:=iw.cell 1;have r0:=iw.free 0;have r1:=iw.free 1
    unfold gQ
    go_wp2_with (refine wpList_store_row rfl 151 (.tmp 2) (.tmp _) rfl w.heap.size _ rfl rfl _ _ fO (bP V) (by show 8=V.cells.toArray.size;rw[List.size_toArray,Vt.bK]) V.all ?_)
    obtain⟨e0,e1,e2⟩:=Ia (hB3.trans (hb3.mono hB3.size)) fO (Aj.kept hb3) hl3 (qH.mono fun b hb=>by omega) hV
    exact lS Tryz.results139 rfl rfl e0 e1 Tryz.underlying151 rfl (bP V) Tryz.underlying88 rfl fF rfl e2
end
section
open Go.RowKit
theorem aaG(a b:List UInt8):((⟨a.toArray⟩:ByteArray)==⟨b.toArray⟩)=decide (a=b):=by
 rw[beq_toListBytes,Bool.eq_iff_iff,beq_iff_eq,decide_eq_true_eq]
 refine⟨fun h=>?_,fun h=>by rw[h]⟩
 have h2:∀ l:List UInt8,(⟨l.toArray⟩:ByteArray).toList=l:=fun l=>by
  rw[ByteArray.toList_eq]
 rw[h2,h2] at h
 exact h
theorem aaH{P:Program}{kt:TypeId}(ht:P.underlying kt=some .string):sK P kt (fun s:List UInt8=>sv s) :=
 Fe _ ht (fun a b=>by
  simp only[Instr.sameNow]
  rw[aaG]) (fun k e w=>by rw[show(10000:Nat)=9999+1 from rfl,Instr.checkKey];simp[run_underlying ht]) (fun k=>by
  show((⟨k.toArray⟩:ByteArray)==⟨k.toArray⟩)=true
  rw[aaG];simp)
theorem agI(xs:List UInt8):Value.string (Rz (xs.map UInt8.toNat))=sv xs:=by
 unfold Rz strOfNums
 congr 1
 apply ByteArray.ext
 simp[List.map_map,Function.comp_def]
theorem agJ{P:Program}{w:World}{src dst e:TypeId}(hs:P.underlying src=some (.slice e))(he:P.underlying e=some (.int .u8))(hd:P.underlying dst=some .string){a:Option Addr}{cap n:Nat}{xs:List UInt8}(hn:n=xs.length)(h:ak w (.slice a n cap) 1 bf xs) :
  (convert src dst (.slice a n cap)).run P w=.ok (sv xs) w:=by
 rw[←agI]
 refine OY hs he hd (by simp[hn]) ?_
 obtain⟨a',b,o,cap',hv,hl,hc,ha,hx⟩:=h
 refine⟨a',b,o,cap',by simpa using hv,by simpa using hl,hc,ha.imp id (fun h=>⟨by rw[h.1];rfl,h.2⟩),fun i hi j u hu=>?_⟩
 have:=hx i (by simpa using hi) j u
 refine this ?_
 simpa using hu
theorem ak.afs{w:World}{b o n cap:Nat}{s:List UInt8}(h:ak w (.slice (some ⟨b,o,none⟩) n cap) 1 bf s)(k:Nat)(hk:k≤n):ak w (.slice (some ⟨b,o,none⟩) k cap) 1 bf (s.take k):=by
 have:=ak.sub (f:=fun x:UInt8=>Value.int .u8 x.toNat) h 0 k (by omega)
 simpa [Ci] using this
def iW(x:List UInt8×Vt):List Value:=sv x.1::x.2.cells
theorem Ak:fD iW 9:=⟨fun x=>by rw[iW,List.length_cons,Vt.bK],fun x u hu=>by
 rcases List.mem_cons.1 hu with rfl | hu
 ·rfl
 ·exact x.2.cells_one u hu⟩
theorem O7:eu Tryz.prog 86 153 (.agg #[.string ⟨#[]⟩,.int .i64 0,.int .u64 0,.int .u64 0,.int .u64 0,.int .u64 0,.slice none 0 0,.int .i64 0,.int .i64 0]) 9 96 :=
 ⟨Tryz.underlying86,info_parts (by kernel_rfl),rfl,by decide⟩
abbrev wu(Rs:List (List UInt8×Vt)):List (List UInt8×Value):=Rs.map fun x=>(x.1,.bool true)
structure rG(w:World)(r base:Nat)(a:Option Addr)(cap:Nat)(Rs:List (List UInt8×Vt))(m:Nat):Prop where
 box:Box w r #[.slice a Rs.length cap,.map (some m)] 139
 own:Own w base 153 9 iW (.slice a Rs.length cap) Rs
 map:aK w m (fun s:List UInt8=>sv s) (wu Rs)
 lies:∀ i (h:i<Rs.length),Lies w Rs[i].2
 on:∀ i (h:i<Rs.length),On (fun b=>base≤b∧(Value.slice a Rs.length cap).ownBlock≠some b) Rs[i].2
 lt:r<base∧m<base∧r≠m
theorem rG.kept{w w':World}{r base:Nat}{a:Option Addr}{cap:Nat}{Rs:List (List UInt8×Vt)}{m:Nat}(h:rG w r base a cap Rs m)(hb:Below w.heap.size w w'):rG w' r base a cap Rs m :=
 ⟨h.box.kept hb,h.own.kept hb,h.map.kept hb,fun i hi=>(h.lies i hi).kept hb,h.on,h.lt⟩
theorem Am(nm:List UInt8)(Rs:List (List UInt8×Vt)):(look nm (wu Rs)).getD (.bool false)=.bool ((Rs.map (·.1)).contains nm):=by
 induction Rs with
 | nil=>rfl
 | cons x Rs ih =>
  rw[wu,List.map_cons,look,List.map_cons,List.contains_cons]
  by_cases h:nm=x.1
  ·rw[if_pos h];simp[h]
  ·rw[if_neg h]
   rw[show(nm==x.1)=false from by simpa using h,Bool.false_or];exact ih
def tq(have':List (List UInt8))(s:List UInt8):Sum (Nat×Nat) (List UInt8) :=
 if have'.length=64 then .inl (18,0) else if runFrom true s=0 then .inl (9,0) else if 32<runFrom true s then .inl (9,32)
 else if Bh s (runFrom true s) 58=false then .inl (10,runFrom true s) else if have'.contains (s.take (runFrom true s)) then .inl (8,0) else .inr (s.take (runFrom true s))
theorem xY(N:Nat)(have':List (List UInt8))(s:List UInt8):zF N have' s=match tq have' s with
  | .inl q=>some (.inl q)
  | .inr nm=>(uG N (s.drop (nm.length+1))).map fun r=>match r with | .inl q=>.inl (q.1,q.2+(nm.length+1)) | .inr x=>.inr (nm,x):=by
 unfold zF tq
 have hk:=vY true s
 have hl:(s.take (runFrom true s)).length=runFrom true s:=by rw[List.length_take,Nat.min_eq_left hk]
 dsimp only
 by_cases h1:have'.length=64
 ·rw[if_pos h1,if_pos h1]
 rw[if_neg h1,if_neg h1]
 by_cases h2:runFrom true s=0
 ·rw[if_pos h2,if_pos h2]
 rw[if_neg h2,if_neg h2]
 by_cases h3:32<runFrom true s
 ·rw[if_pos h3,if_pos h3]
 rw[if_neg h3,if_neg h3]
 by_cases h4:Bh s (runFrom true s) 58=false
 ·rw[if_pos h4,if_pos h4]
 rw[if_neg h4,if_neg h4]
 by_cases h5:have'.contains (s.take (runFrom true s))=true
 ·rw[if_pos h5,if_pos h5]
 rw[if_neg h5,if_neg h5]
 dsimp only
 rw[hl]
 rfl
def aft(w:World)(ans:Sum (Nat×Nat) (List UInt8))(e:Ending)(w':World):Prop:=bM w (match ans with | .inl q=>.tuple #[sv [],gQ q.1 q.2] | .inr nm=>.tuple #[sv nm,gQ 0 0]) e w'
theorem Yj:(Tryz.prog.info? 4).map (fun i=>(i.zero,i.size))=some (some (.bool false),1):=by kernel_rfl
theorem O8(w:World):(zeroValue 4).run Tryz.prog w=.ok (.bool false) w:=(zero_of_info Yj).1 w
theorem mX:sK Tryz.prog 9 (fun s:List UInt8=>sv s):=aaH Tryz.underlying9
end
section
open Go.RowKit
abbrev Yk(x:List UInt8):List Value:=[sv x]
theorem adH:fD Yk 1:=⟨fun _=>rfl,fun x u hu=>by simp at hu;subst hu;rfl⟩
def IY:List (List UInt8)→Nat→List (List UInt8×Value)
 | [],_=>[]
 | k::ks,i=>(k,.int .i64 (i:Nat))::IY ks (i+1)
theorem LG:∀ (ks:List (List UInt8)) (k:List UInt8) (i:Nat),IY (ks++[k]) i=IY ks i++[(k,.int .i64 ((i+ks.length:Nat):Nat))]
 | [],k,i=>rfl
 | x::ks,k,i=>by rw[List.cons_append,IY,LG ks k (i+1),IY,List.cons_append,List.length_cons,show i+1+ks.length=i+(ks.length+1) by omega]
theorem Ec(k:List UInt8):∀ (ks:List (List UInt8)) (i:Nat),look k (IY ks i)=(ks.idxOf? k).map fun j=>Value.int .i64 ((i+j:Nat):Nat)
 | [],i=>rfl
 | x::ks,i=>by
  rw[IY,look,Ec k ks (i+1),List.idxOf?_cons]
  by_cases h:k=x
  ·subst h;simp
  ·have h2:(x==k)=false:=by simp;exact fun e=>h e.symm
   rw[if_neg h,h2]
   simp only[Bool.false_eq_true,if_false,Option.map_map]
   congr 1
   funext j
   simp[Nat.add_assoc,Nat.add_comm 1 j]
structure TabAt(w:World)(tb mb base:Nat)(kv:Value)(ks:List (List UInt8)):Prop where
 box:Box w tb #[.map (some mb),kv] 318
 mp:aK w mb (fun s:List UInt8=>sv s) (IY ks 0)
 own:Own w base 9 1 Yk kv ks
 lt:tb<base∧mb<base∧tb≠mb
theorem TabAt.kept{w w':World}{tb mb base:Nat}{kv:Value}{ks:List (List UInt8)}(h:TabAt w tb mb base kv ks)(hb:Below w.heap.size w w'):TabAt w' tb mb base kv ks:=⟨h.box.kept hb,h.mp.kept hb,h.own.kept hb,h.lt⟩
structure afu(tb mb:Nat)(kv kv':Value)(w w':World):Prop where
 os:w'.os=w.os
 tape:w'.tape=w.tape
 output:w'.output=w.output
 size:w.heap.size≤w'.heap.size
 block:∀ b,b<w.heap.size→b≠tb→b≠mb→kv.ownBlock≠some b→w'.heap[b]?=w.heap[b]?
 fresh:∀ g,kv'.ownBlock=some g→kv.ownBlock=some g∨w.heap.size≤g
theorem O9:eu Tryz.prog 25 9 (.string ⟨#[]⟩) 1 16:=⟨Tryz.underlying25,info_parts (by kernel_rfl),rfl,by decide⟩
theorem Yl(w:World):Calls Tryz.prog 195 #[] w fun e w'=>e=.returned (.pointer (some ⟨w.heap.size+1,0,none⟩))∧TabAt w' (w.heap.size+1) w.heap.size (w.heap.size+2) (.slice none 0 0) []∧w'.heap.size=w.heap.size+2∧Below w.heap.size w w':=by
 have hmm:=@run_makeMap Tryz.prog
 go_enter Tryz.func195,Tryz.ntmps195
 go_wp2
 go_ret
 have hB1:=aj w (.map #[] 0)
 refine⟨by simp,⟨Box.new' (by simp) _ _,(aK.new w _).alloc _,Own.nil _ _ _ _ _,by omega,by omega,by omega⟩,by simp,hB1.alloc hB1.size _⟩
theorem Pg(w:World):(zeroValue 3).run Tryz.prog w=.ok (.int .i64 0) w:=by
 have h:(Tryz.prog.info? 3).map (fun i=>(i.zero,i.size))=some (some (.int .i64 0),1):=by kernel_rfl
 exact(zero_of_info h).1 w
theorem Ym(tb mb base j:Nat)(kv:Value)(ks:List (List UInt8))(k:List UInt8)(w:World)(h:TabAt w tb mb base kv ks)(hj:ks.idxOf? k=some j) :
  Calls Tryz.prog 285 #[.pointer (some ⟨tb,0,none⟩),sv k] w fun e w'=>e=.returned (.tuple #[.int .i64 j,.bool false])∧w'=w:=by
 have hlk:=h.mp.qR mX Tryz.underlying316 (Pg w) k
 rw[Ec,hj] at hlk
 simp only[Option.map_some,Option.getD_some,Option.isSome_some,Nat.zero_add] at hlk
 have x0:w.cell? ⟨tb,0,none⟩=some (.map (some mb)):=h.box.cell 0
 have hl:=h.box.lt
 clear h hj
 go_enter Tryz.func285,Tryz.ntmps285
 go_wp2
 go_ret2
 exact⟨rfl,rfl⟩
theorem Yn(tb mb base:Nat)(kv:Value)(ks:List (List UInt8))(k:List UInt8)(w:World)(h:TabAt w tb mb base kv ks)(hj:ks.idxOf? k=none)(hn:ks.length≤1099511627776)(hb:base≤w.heap.size) :
  Calls Tryz.prog 285 #[.pointer (some ⟨tb,0,none⟩),sv k] w fun e w'=>e=.returned (.tuple #[.int .i64 ks.length,.bool true])∧∃ kv',TabAt w' tb mb base kv' (ks++[k])∧afu tb mb kv kv' w w':=by
 have hlk:=h.mp.qR mX Tryz.underlying316 (Pg w) k
 rw[Ec,hj] at hlk
 simp only[Option.map_none,Option.getD_none,Option.isSome_none] at hlk
 obtain⟨ka,kc,hkv⟩:=h.own.form
 subst hkv
 have x0:w.cell? ⟨tb,0,none⟩=some (.map (some mb)):=h.box.cell 0
 have x1:w.cell? ⟨tb,1,none⟩=some (.slice ka ks.length kc):=h.box.cell 1
 have hl:=h.box.lt
 have hlt:=h.lt
 obtain⟨w4,hput,hm4,mM,D8,Cm⟩:=h.mp.sN mX Tryz.underlying316 k (.int .i64 ks.length)
 rw[kV k _ _ (by rw[Ec,hj];rfl)] at hm4
 have hm5:aK w4 mb (fun s:List UInt8=>sv s) (IY (ks++[k]) 0):=by rw[LG,Nat.zero_add];exact hm4
 have Yo:Box w4 tb #[.map (some mb),.slice ka ks.length kc] 318:=(mM tb hlt.2.2).trans h.box
 have hown4:=h.own.same (w':=w4) fun g hg=>mM g (by have:=(h.own.blk hg).1;omega)
 have z0:w4.cell? ⟨tb,0,none⟩=some (.map (some mb)):=Yo.cell 0
 have z1:w4.cell? ⟨tb,1,none⟩=some (.slice ka ks.length kc):=Yo.cell 1
 have HB4:=ah Yo;have Wu:=ah hm5;have oK:=ah mM;have HBL:=ah Cm;have HOW:=ah hown4
 have hws:base≤w4.heap.size:=by omega
 clear hm4 hm5 mM Cm Yo hown4 hj h
 have dG:=aj w4 (.cells #[sv k] 9)
 have hnews:∀ j u,(Yk k)[j]?=some u→(w4.alloc (.cells #[sv k] 9)).cell? ((⟨w.heap.size,0,none⟩:Addr).add j)=some u:=by rw[←D8];exact cu w4 [sv k] _
 have HNW:=ah hnews
 clear hnews
 go_enter Tryz.func285,Tryz.ntmps285
 go_wp2_with (at_builtin;go_must (refine dB rfl _ _ 25 rfl O9 adH rfl (HOW.out.alloc _) ⟨w.heap.size,0,none⟩ 1 k rfl HNW.out (by simp only[maxLen];omega) (by omega) (by simp only[World.size_alloc];omega) ?_;intro a7 c7 w7 fC bZ nP;have hb7:=(HB4.out.alloc (.cells #[sv k] 9)).grown (HOW.out.alloc _) bZ hlt.1;have q1:=hb7.cell 1;have f1:=hb7.free 1;have FU:=hb7.lt))
 go_ret2
 have hm7:aK w7 mb (fun s:List UInt8=>sv s) (IY (ks++[k]) 0):=(Wu.out.alloc (.cells #[sv k] 9)).same (bZ.block mb ((Wu.out.alloc (.cells #[sv k] 9)).lt) fun e=>by
  have:=((HOW.out.alloc (.cells #[sv k] 9)).blk e.symm).1;omega)
 have hle:(ks++[k]).length=ks.length+1:=by simp
 have hs7:=bZ.size
 simp only[World.size_alloc] at hs7
 refine⟨rfl,_,⟨hb7.set 1 _,hm7.other _ _ (fun e=>hlt.2.2 e.symm),fC.other _ _ hlt.1,hlt⟩,?_⟩
 have hb0:=HBL.out 0 (Nat.zero_le _)
 refine⟨bZ.os.trans (dG.os.trans hb0.os),bZ.tape.trans (dG.tape.trans hb0.tape),bZ.output.trans (dG.output.trans hb0.output),by rw[World.size_setCell];omega,fun b hb1 h1 h2 h3=>?_,fun g hg=>?_⟩
 ·rw[heap_setCell_other _ _ b _ h1,bZ.block b (by simp only[World.size_alloc];omega) (fun e=>h3 e.symm),dG.block b (by omega)]
  exact oK.out b h2
 ·rcases nP with e | e
  ·exact .inl (e▸hg)
  ·rw[e] at hg
   cases hg
   exact .inr (by simp only[World.size_alloc];omega)
end
end Go.Proofs.YtbemonecmmnlcaaGreatDoor
