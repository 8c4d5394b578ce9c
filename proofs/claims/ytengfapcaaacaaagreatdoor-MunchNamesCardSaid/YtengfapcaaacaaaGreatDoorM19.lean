/- The texts of N19, in few letters (mini.py). -/
import Derived.Test.YtengfapcaaacaaaGreatDoorM18
set_option linter.unusedVariables false
set_option linter.unusedSimpArgs false
set_option maxRecDepth 20000
set_option maxHeartbeats 3200000
namespace Go.Proofs.YtengfapcaaacaaaGreatDoor
section
open Go.RowKit
structure Ic(b E:Nat)(c:Array Value)(w w':World):Prop where
 only:dY b w w'
 same:Box w b c E→Box w' b c E
instance Ef (b E:Nat) (c:Array Value):jw (Ic b E c):=⟨fun a=>⟨(jS b).refl a,id⟩,fun p q r h k=>⟨(jS b).trans p q r h.only k.only,fun e=>k.same (h.same e)⟩,fun p q h=>⟨(jS b).later p q h,fun e=>e.kept h⟩⟩
theorem aey{w:World}{b:Nat}(h:Box w b bG 115):Box ((((((((w.setCell ⟨b,0,none⟩ (.int .i64 0)).setCell ⟨b,1,none⟩ (.int .u64 0)).setCell ⟨b,2,none⟩ (.int .u64 0)).setCell ⟨b,3,none⟩ (.int .u64 0)).setCell ⟨b,4,none⟩ (.int .u64 0)).setCell ⟨b,5,none⟩ (.slice none 0 0)).setCell ⟨b,6,none⟩ (.int .i64 0)).setCell ⟨b,7,none⟩ (.int .i64 0)) b bG 115 :=
 (((((((h.set 0 (.int .i64 0)).set 1 (.int .u64 0)).set 2 (.int .u64 0)).set 3 (.int .u64 0)).set 4 (.int .u64 0)).set 5 (.slice none 0 0)).set 6 (.int .i64 0)).set 7 (.int .i64 0)
theorem Ie{w:World}{b:Nat}:Ic b 115 bG w ((((((((w.setCell ⟨b,0,none⟩ (.int .i64 0)).setCell ⟨b,1,none⟩ (.int .u64 0)).setCell ⟨b,2,none⟩ (.int .u64 0)).setCell ⟨b,3,none⟩ (.int .u64 0)).setCell ⟨b,4,none⟩ (.int .u64 0)).setCell ⟨b,5,none⟩ (.slice none 0 0)).setCell ⟨b,6,none⟩ (.int .i64 0)).setCell ⟨b,7,none⟩ (.int .i64 0)):=⟨vO _ _ _ _ _ _ _ _ _ _,aey⟩
theorem eu:(Tryz.prog.info? 66).map (·.size)=some 2:=by kernel_rfl
theorem dY.low{b B:Nat}{w0 w w':World}(h:dY b w w')(hb:Below B w0 w)(h1:B≤b)(h2:B≤w.heap.size):Below B w0 w':=hb.trans ⟨h.os,h.tape,h.output,h.size,fun k hk=>h.block k (by omega) (by omega)⟩
theorem dY.box{b g E:Nat}{c:Array Value}{w w':World}(h:dY b w w')(hb:Box w g c E)(hne:g≠b):Box w' g c E:=(h.block g hb.lt hne).trans hb
def aez(Q:Exit→Act→World→Prop):Exit→Act→World→Prop
 | .panic _,_,_=>False
 | e,a,w=>Q e a w
theorem acQ{P:Program}{c:Code}{Q:Exit→Act→World→Prop}{a:Act}{w:World}(h:c.wp P (aez Q) a w):c.wp P Q a w:=wp_mono h fun e a w h=>by
 cases e <;> first | exact h | exact h.elim
theorem RZ{Q:Exit→Act→World→Prop}{a:Act}{w:World}(h:Q .normal a w):aez Q .normal a w:=h
theorem XG(k p:Int)(w:World):(Instr.typeAssert (.iface 66 (.agg #[.int .i64 k,.int .i64 p])) 20 66 false).run Tryz.prog w=.ok (.agg #[.int .i64 k,.int .i64 p]) w:=by kernel_rfl
theorem afV(b0 b1:Nat)(w:World):CallsD Tryz.prog 184 #[.pointer (some ⟨b0,0,none⟩),.pointer (some ⟨b1,0,none⟩)] .returning w fun e u' w'=>e=.returned (.tuple #[])∧u'=.returning∧w'=w:=by
 refine callsD_of_wpS Tryz.func184 rfl fun c₀ cs hu=>?_
 apply wpS_seq
 apply wpS_region
 simp[wpOpsS,go_sem,recoverD,hu,Tryz.ntmps184,Exit.thenS]
 simp only[Array.replicate_succ,Array.replicate_zero,List.push_toArray,List.append_toArray,List.nil_append,List.cons_append,List.setIfInBounds_toArray,List.set_cons_zero,List.set_cons_succ]
 refine wpS_of_wp ?_
 go_wp2
 obtain⟨fn,tm,td,df,mo,ki,ro⟩:=c₀
 obtain rfl:mo=_:=hu
 exact⟨rfl,.returning,rfl,.tuple #[],by simp[results,Tryz.f184,go_sem],rfl,rfl,rfl⟩
theorem acR(b0 b1 k p:Nat)(w:World)(h0:Box w b0 bG 115)(h1:Box w b1 #[.int .i64 0,.int .i64 0] 66)(hne:b1≠b0) :
  CallsD Tryz.prog 184 #[.pointer (some ⟨b0,0,none⟩),.pointer (some ⟨b1,0,none⟩)] (.panicking [{ v:=.iface 66 (dZ k p),recovered:=false }]) w fun e u' w' =>
  e=.returned (.tuple #[])∧u'=.panicking [{ v:=.iface 66 (dZ k p),recovered:=true }]∧Box w' b0 bG 115∧Box w' b1 #[.int .i64 k,.int .i64 p] 66∧∀ B,B≤b0→B≤b1→Below B w w':=by
 refine callsD_of_wpS Tryz.func184 rfl fun c₀ cs hu=>?_
 apply wpS_seq
 apply wpS_region
 simp[wpOpsS,go_sem,recoverD,hu,Tryz.ntmps184,Exit.thenS]
 simp only[Array.replicate_succ,Array.replicate_zero,List.push_toArray,List.append_toArray,List.nil_append,List.cons_append,List.setIfInBounds_toArray,List.set_cons_zero,List.set_cons_succ]
 refine wpS_of_wp ?_
 go_wp2_with fail
 have HF:Hid (∀ u,Later w.drew u→Box u b0 bG 115∧Box u b1 #[.int .i64 0,.int .i64 0] 66∧∀ B,B≤b0→B≤b1→Below B w u):=ah fun u hl=>⟨h0.drew.kept hl,h1.drew.kept hl,fun B p1 _=>((Below.refl B w).drew).trans (hl.mono (by have:=h0.lt;show B≤w.heap.size;omega))⟩
 clear h0 h1
 have hta:=XG
 unfold dZ
 refine jq (R:=Later) [3,4] (by kernel_rfl) ?_
 refine pl [0,1,2] ?_
 repeat
  refine oM ?_ rfl (fun w1=>?_) ?_
  rotate_left
  ·go_simp;try with_reducible rfl
  simp only[eA,eB,eC,Act.put,eD,eE,eF]
 refine bU ?_
 refine dw (T:=[3,4]) (i:=3) (by kernel_rfl) rfl (fun w1 hl K hK=>?_)
 obtain⟨hX0,hX1,hB⟩:=HF.out w1 hl
 obtain⟨f0,f1,f2,f3,f4,f5,f6,f7⟩:=hX0.vF
 have z0:=hX0.cell 0;have z1:=hX0.cell 1;have z2:=hX0.cell 2;have z3:=hX0.cell 3;have z4:=hX0.cell 4;have z5:=hX0.cell 5;have z6:=hX0.cell 6;have z7:=hX0.cell 7
 go_simp
 refine hK.out _ _ (fun h=>absurd h (by decide)) ?_
 have hY0:=(((((((hX0.set 0 (.int .i64 0)).set 1 (.int .u64 0)).set 2 (.int .u64 0)).set 3 (.int .u64 0)).set 4 (.int .u64 0)).set 5 (.slice none 0 0)).set 6 (.int .i64 0)).set 7 (.int .i64 0)
 have Bz:=(((((((hX1.other ⟨b0,0,none⟩ (.int .i64 0) hne).other ⟨b0,1,none⟩ (.int .u64 0) hne).other ⟨b0,2,none⟩ (.int .u64 0) hne).other ⟨b0,3,none⟩ (.int .u64 0) hne).other ⟨b0,4,none⟩ (.int .u64 0) hne).other ⟨b0,5,none⟩ (.slice none 0 0) hne).other ⟨b0,6,none⟩ (.int .i64 0) hne).other ⟨b0,7,none⟩ (.int .i64 0) hne
 have hB3:∀ B,B≤b0→B≤b1→Below B w _:=fun B p1 p2=>(((((((((hB B p1 p2).setCell (p:=⟨b0,0,none⟩) p1 (.int .i64 0)).setCell (p:=⟨b0,1,none⟩) p1 (.int .u64 0)).setCell (p:=⟨b0,2,none⟩) p1 (.int .u64 0)).setCell (p:=⟨b0,3,none⟩) p1 (.int .u64 0)).setCell (p:=⟨b0,4,none⟩) p1 (.int .u64 0)).setCell (p:=⟨b0,5,none⟩) p1 (.slice none 0 0)).setCell (p:=⟨b0,6,none⟩) p1 (.int .i64 0)).setCell (p:=⟨b0,7,none⟩) p1 (.int .i64 0))
 clear hK K f0 f1 f2 f3 f4 f5 f6 f7 z0 z1 z2 z3 z4 z5 z6 z7 hX0 hX1 hB hl HF
 refine dw (T:=[3,4]) (i:=4) (by kernel_rfl) rfl (fun w1 hl K hK=>?_)
 have wV:=hY0.kept hl
 have hZ1:=Bz.kept hl
 have hB4:=fun B p1 p2=>(hB3 B p1 p2).trans (hl.mono (by have:=hY0.lt;have:=(hB3 B p1 p2).size;omega))
 have c0:=hZ1.cell 0
 have c1:=hZ1.cell 1
 have f0:=hZ1.free 0
 have f1:=hZ1.free 1
 go_simp
 refine hK.out _ _ (fun h=>absurd h (by decide)) ?_
 have hV0:=(wV.other ⟨b1,0,none⟩ (.int .i64 k) (Ne.symm hne)).other ⟨b1,1,none⟩ (.int .i64 p) (Ne.symm hne)
 have hV1:=(hZ1.set 0 (.int .i64 k)).set 1 (.int .i64 p)
 have bF:∀ B,B≤b0→B≤b1→Below B w _:=fun B p1 p2=>((hB4 B p1 p2).setCell (p:=⟨b1,0,none⟩) p2 (.int .i64 k)).setCell (p:=⟨b1,1,none⟩) p2 (.int .i64 p)
 clear hK K c0 c1 f0 f1 wV hZ1 hB4 hY0 Bz hB3 hl
 refine kK (by kernel_rfl) (fun w1 hl=>?_) _
 have hE0:=hV0.kept hl
 have hE1:=hV1.kept hl
 have hE:=fun B p1 p2=>(bF B p1 p2).trans (hl.mono (by have:=hV0.lt;omega))
 go_wp2
 exact⟨rfl,_,rfl,.tuple #[],by simp[results,Tryz.f184,go_sem],rfl,rfl,hE0,hE1,hE⟩
theorem Eh{W:World}{b0 b1:Nat}{c0 c1:Array Value}{tmps:Array Value}(h0:Box W b0 c0 115)(e0:c0.size=8)(h1:Box W b1 c1 66)(e1:c1.size=2)(t2:tmps.getD 2 undef=.pointer (some ⟨b0,0,none⟩))(t3:tmps.getD 3 undef=.pointer (some ⟨b1,0,none⟩)) :
  (results Tryz.f137 tmps).run Tryz.prog W=.ok (.tuple #[.agg c0,.agg c1]) W:=by
 have t2':tmps[2]?.getD undef=.pointer (some ⟨b0,0,none⟩):=by simpa using t2
 have t3':tmps[3]?.getD undef=.pointer (some ⟨b1,0,none⟩):=by simpa using t3
 have hl:=run_loadVar_row (P:=Tryz.prog) W b0 115 115 c0 (0,0) _ h0 Tryz.underlying115 rfl (by rw[e0];kernel_rfl)
 have h2:=run_loadVar_row (P:=Tryz.prog) W b1 66 66 c1 (0,0) _ h1 Tryz.underlying66 rfl (by rw[e1];kernel_rfl)
 simp[results,Tryz.f137,t2',t3',asAddr,hl,h2]
def Ak(N:Nat)(L:List Lx):Option (Sum (Nat×Nat) Tr):=if 1024<L.length then some (.inl (4,(L.getD 1024 ⟨0,0,0,0,0⟩).at')) else (jd N 0 [] L).map fun r=>match r with | .inl q=>.inl q | .inr (x,_)=>.inr x
def Ig(w:World)(ans:Sum (Nat×Nat) Tr)(e:Ending)(w':World):Prop:=Below w.heap.size w w'∧match ans with
 | .inl q=>e=.returned (.tuple #[.agg bG,dZ q.1 q.2])
 | .inr x=>∃ V:Vt,e=.returned (.tuple #[.agg V.cells.toArray,dZ 0 0])∧V.tr=x∧Lies w' V∧On (fun b=>w.heap.size≤b) V
theorem PK(N:Nat)(hN:N≤1099511627776)(a:Option Addr)(cap n:Nat)(L:List Lx)(w:World)(h:ak w (.slice a n cap) 8 fV L)(ha:∀ ad,a=some ad→ad.block<w.heap.size)(hR:∀ x∈L,pY x)(ans:Sum (Nat×Nat) Tr)(hans:Ak N L=some ans) :
  Calls Tryz.prog 137 #[.slice a n cap] w (Ig w ans):=by
 have hmf:∀ (fn:Fn) (first cap:Array Value) (w:World),(Instr.makeFunc fn first cap).run Tryz.prog w=.ok (.func fn first cap) w:=fun _ _ _ _=>rfl
 have hB0:Below w.heap.size w ((w.alloc (.cells bG 115)).alloc (.cells #[.int .i64 0,.int .i64 0] 66)):=((Below.refl _ w).alloc (Nat.le_refl _) _).alloc (by simp) _
 have hx0:Box ((w.alloc (.cells bG 115)).alloc (.cells #[.int .i64 0,.int .i64 0] 66)) w.heap.size bG 115:=(Box.new' rfl _ _).alloc _
 have hx1:Box ((w.alloc (.cells bG 115)).alloc (.cells #[.int .i64 0,.int .i64 0] 66)) (w.heap.size+1) #[.int .i64 0,.int .i64 0] 66:=Box.new' (by simp) _ _
 have hrd:=UU a cap n L _ (h.kept hB0) hR
 unfold Ak at hans
 by_cases hbig:1024<L.length
 ·rw[if_pos hbig] at hans
  obtain rfl:=Option.some.inj hans
  rw[if_pos hbig] at hrd
  generalize (L.getD 1024 ⟨0,0,0,0,0⟩).at'=IJ at *
  have HR:=ah hrd
  clear hans hbig hrd h ha hR
  go_enter_defers Tryz.func137,Tryz.ntmps137
  go_wp2_with (go_at_call 183;go_must (refine HR.out.mono ?_;rintro e w1 ⟨rfl,hb1⟩;have hX0:=hx0.kept hb1;have hX1:=hx1.kept hb1;unfold dZ))
  have hY:=Box.new w1 #[.int .i64 4,.int .i64 IJ] 66
  have hB1:=(hB0.trans (hb1.mono hB0.size)).trans ((aj w1 (.cells #[.int .i64 4,.int .i64 IJ] 66)).mono (hB0.trans (hb1.mono hB0.size)).size)
  have Gg:=hX0.alloc (.cells #[.int .i64 4,.int .i64 IJ] 66)
  have Gh:=hX1.alloc (.cells #[.int .i64 4,.int .i64 IJ] 66)
  have hz1:=hX1.lt
  have hzw:w1.heap.size<(w1.alloc (.cells #[.int .i64 4,.int .i64 IJ] 66)).heap.size:=by simp
  generalize (w1.alloc (.cells #[.int .i64 4,.int .i64 IJ] 66))=W2 at *
  have HF:Hid (∀ u,Ic w.heap.size 115 bG W2.drew u→Box u w1.heap.size #[.int .i64 4,.int .i64 IJ] 66∧Box u w.heap.size bG 115∧Box u (w.heap.size+1) #[.int .i64 0,.int .i64 0] 66∧Below w.heap.size w u):=ah fun u hl =>
   ⟨hl.only.box hY.drew (by omega),hl.same Gg.drew,hl.only.box Gh.drew (by omega),hl.only.low (hB1.trans (Below.refl _ _).drew) (Nat.le_refl _) (by show w.heap.size≤W2.heap.size;omega)⟩
  clear hY hB1 Gg Gh hX0 hX1 hb1 HR hx0 hx1 hB0
  refine acQ ?_
  refine aA (R:=Ic w.heap.size 115 bG) 3 (by kernel_rfl) ?_
  refine zS (t:=3) (i:=1) rfl (by kernel_rfl) (by kernel_rfl) (by kernel_rfl) (by kernel_rfl) (fun _ _ _ h=>h) (by rfl) (fun w1 hl=>lW 66 _ rfl _ rfl ((HF.out w1 hl).1) Tryz.underlying66 rfl (eu)) ?_
  simp only[eA,eB,eC,Act.put,eD,eE,eF]
  refine jM 0 ?_ rfl (fun w1 hl=>?_) ?_
  rotate_left
  ·skip;go_simp;try with_reducible rfl
  simp only[eA,eB,Act.put,eD,eE,eF]
  refine aP (t:=3) (i:=2) (by kernel_rfl) rfl (fun w1 hl K hK=>?_)
  obtain⟨_,hX0,_,_⟩:=HF.out w1 hl
  obtain⟨f0,f1,f2,f3,f4,f5,f6,f7⟩:=hX0.vF
  have z0:=hX0.cell 0;have z1:=hX0.cell 1;have z2:=hX0.cell 2;have z3:=hX0.cell 3;have z4:=hX0.cell 4;have z5:=hX0.cell 5;have z6:=hX0.cell 6;have z7:=hX0.cell 7
  go_simp
  refine hK.out _ _ (fun _=>Ie) ?_
  have hl2:=(Ef _ _ _).trans _ _ _ hl (Ie (w:=w1) (b:=w.heap.size))
  clear hK K hl f0 f1 f2 f3 f4 f5 f6 f7 z0 z1 z2 z3 z4 z5 z6 z7 hX0
  refine aP (t:=3) (i:=3) (by kernel_rfl) rfl (fun w1 hl K hK=>?_)
  obtain⟨_,hX0,hX1,hB⟩:=HF.out w1 ((Ef _ _ _).trans _ _ _ hl2 hl)
  have z0:=hX1.cell 0;have z1:=hX1.cell 1;have f0:=hX1.free 0;have f1:=hX1.free 1
  go_simp
  refine hK.out _ _ (fun h=>absurd rfl h) ?_
  have hY0:=(hX0.other ⟨w.heap.size+1,0,none⟩ (.int .i64 4) (by simp)).other ⟨w.heap.size+1,1,none⟩ (.int .i64 IJ) (by simp)
  have Bz:=(hX1.set 0 (.int .i64 4)).set 1 (.int .i64 IJ)
  have hB2:=(hB.setCell (p:=⟨w.heap.size+1,0,none⟩) (by simp) (.int .i64 4)).setCell (p:=⟨w.heap.size+1,1,none⟩) (by simp) (.int .i64 IJ)
  clear hK K hl hl2 hX0 hX1 hB HF z0 z1 f0 f1
  refine aH (by kernel_rfl) (fun w1 hl=>?_) _
  have wV:=hl.same hY0
  have hZ1:=hl.only.box Bz (by simp)
  have hB3:=hl.only.low hB2 (Nat.le_refl _) (by have:=hY0.lt;omega)
  clear hl
  refine RZ ?_
  go_wp2
  exact⟨_,Eh wV rfl hZ1 rfl rfl rfl,hB3,rfl⟩
 ·rw[if_neg hbig] at hans
  rw[if_neg hbig] at hrd
  cases hA:jd N 0 [] L with
  | none=>rw[hA] at hans;cases hans
  | some A =>
   rw[hA] at hans
   obtain rfl:=Option.some.inj hans
   have HR:=ah hrd
   have H:=ah h
   have HA:=ah hA
   clear hans hbig hrd h hA
   go_enter_defers Tryz.func137,Tryz.ntmps137
   go_wp2_with (go_at_call 183;go_must (refine HR.out.mono ?_;rintro e w1 ⟨rfl,hb1⟩;have hX0:=hx0.kept hb1;have hX1:=hx1.kept hb1;unfold dZ))
   have hB1:=hB0.trans (hb1.mono hB0.size)
   have hA1:=aj w1 (.cells #[.int .i64 0,.int .i64 0] 66)
   have hA2:=aj (w1.alloc (.cells #[.int .i64 0,.int .i64 0] 66)) (.cells #[.slice a n cap,.slice none 0 0] 275)
   have hA3:=hA1.trans (hA2.mono hA1.size)
   have bF:=hB1.trans (hA3.mono hB1.size)
   have hz1:=hX1.lt
   have hs5:((w1.alloc (.cells #[.int .i64 0,.int .i64 0] 66)).alloc (.cells #[.slice a n cap,.slice none 0 0] 275)).heap.size=w1.heap.size+1+1:=by simp
   have hP:dJ ((w1.alloc (.cells #[.int .i64 0,.int .i64 0] 66)).alloc (.cells #[.slice a n cap,.slice none 0 0] 275)) (w1.heap.size+1) (w1.heap.size+1+1) (.slice a n cap) L (.slice none 0 0) [] :=
    ⟨Box.new' (by simp) _ _,H.out.kept bF,fun ad n' c' e=>(by cases e;have:=ha ad rfl;omega),Own.nil _ _ _ _ _,hR⟩
   have Gg:=hX0.kept hA3
   have Gh:=hX1.kept hA3
   refine((ahj (w1.heap.size+1) (w1.heap.size+1+1) N hN).1 _ _ L [] A _ hP (by omega) (by omega) (by simp) HA.out).mono ?_
   generalize ((w1.alloc (.cells #[.int .i64 0,.int .i64 0] 66)).alloc (.cells #[.slice a n cap,.slice none 0 0] 275))=W5 at *
   intro e w6 hres
   clear hP hA1 hA2 hA3 HR H HA hx0 hx1 hB0 hX0 hX1 hb1
   cases A with
   | inl p =>
    obtain⟨hl,hk⟩:=hres
    obtain rfl:e=_:=hl
    have hY0:=hk.box Gg (by omega) (fun e=>by cases e)
    have Bz:=hk.box Gh (by omega) (fun e=>by cases e)
    refine leaves_cons (f:=184) (args:=#[.pointer (some ⟨w.heap.size,0,none⟩),.pointer (some ⟨w.heap.size+1,0,none⟩)]) (by simp) (by simp[go_sem]) ?_
    refine(acR w.heap.size (w.heap.size+1) p.1 p.2 w6 hY0 Bz (by omega)).mono ?_
    rintro e u' w7 ⟨rfl,rfl,hE0,hE1,hE⟩
    exact⟨_,Eh hE0 rfl hE1 rfl rfl rfl,(bF.trans (hk.low.mono (by omega))).trans (hE w.heap.size (Nat.le_refl _) (by omega)),rfl⟩
   | inr p =>
    obtain⟨x,R⟩:=p
    obtain⟨V,v6,ov6,rfl,hV,_,Si,hk,_⟩:=hres
    have hY0:=hk.box Gg (by omega) (fun e=>by cases e)
    have Bz:=(hk.box Gh (by omega) (fun e=>by cases e)).setRow_other (g:=w.heap.size) V.cells.toArray (by omega)
    have z0:=Bz.cell 0
    have z1:=Bz.cell 1
    have f0:=Bz.free 0
    have f1:=Bz.free 1
    go_wp2_with (refine wpList_store_row rfl 115 (.tmp 2) (.tmp _) rfl w.heap.size _ rfl rfl _ _ hY0 (bP V) (by show 8=V.cells.toArray.size;rw[List.size_toArray,Vt.bI]) V.all ?_)
    have hE0:=((hY0.setRow V.cells.toArray).other ⟨w.heap.size+1,0,none⟩ (.int .i64 0) (by simp)).other ⟨w.heap.size+1,1,none⟩ (.int .i64 0) (by simp)
    have hE1:=(Bz.set 0 (.int .i64 0)).set 1 (.int .i64 0)
    have kH:=bF.trans (hk.low.mono (by omega))
    have lU:=((below_setRow kH (Nat.le_refl _) V.cells.toArray).setCell (p:=⟨w.heap.size+1,0,none⟩) (by simp) (.int .i64 0)).setCell (p:=⟨w.heap.size+1,1,none⟩) (by simp) (.int .i64 0)
    have F9:Lies (((w6.setRow w.heap.size V.cells.toArray).setCell ⟨w.heap.size+1,0,none⟩ (.int .i64 0)).setCell ⟨w.heap.size+1,1,none⟩ (.int .i64 0)) V:=Si.lies.eH Si.on fun b hb =>
     (heap_setCell_other _ ⟨w.heap.size+1,1,none⟩ b _ (by show b≠w.heap.size+1;omega)).trans ((heap_setCell_other _ ⟨w.heap.size+1,0,none⟩ b _ (by show b≠w.heap.size+1;omega)).trans (setRow_other w6 w.heap.size b _ (by omega)))
    refine leaves_cons (f:=184) (args:=#[.pointer (some ⟨w.heap.size,0,none⟩),.pointer (some ⟨w.heap.size+1,0,none⟩)]) (by simp) (by simp[go_sem]) ?_
    refine(afV w.heap.size (w.heap.size+1) _).mono ?_
    rintro e u' w7 ⟨rfl,rfl,rfl⟩
    exact⟨_,Eh hE0 (by rw[List.size_toArray,Vt.bI]) hE1 rfl rfl rfl,lU,V,rfl,hV,F9,Si.on.mono fun b hb=>by omega⟩
end
section
open Go.RowKit
theorem acS{N:Nat}{x:Lx}{ans:Sum (Nat×Nat) Tr}(h:Ak N [x]=some ans)(hk:x.kind=1):ans=.inr (.mk 3 x.set [] 0 0):=by
 unfold Ak at h
 rw[if_neg (by simp)] at h
 match N with
 | 0=>rw[jd] at h;cases h
 | 1=>rw[lJ,jK] at h;cases h
 | 2=>rw[lJ,jV,kX] at h;cases h
 | 3 =>
  rw[lJ,jV,pq,if_pos hk] at h
  dsimp only at h
  rw[jV,kX] at h;cases h
 | n+4 =>
  rw[lJ,jV,pq,if_pos hk] at h
  dsimp only at h
  rw[jV,show(dL [] (Tr.mk 3 x.set [] 0 0)).2=[] from by rw[dL],uP] at h
  rw[show(dL [] (Tr.mk 3 x.set [] 0 0)).1=Tr.mk 3 x.set [] 0 0 from by rw[dL]] at h
  exact(Option.some.inj h).symm
theorem IK{l:List UInt8}{q:Nat×Nat}(h:jP l=.inl q):q.1≠0:=by
 have hl:∀ (n i:Nat) (acc:List Lx),lexFrom l n i acc=.inl q→q.1≠0:=by
  intro n
  induction n with
  | zero=>intro i acc h;rw[lexFrom] at h;cases h
  | succ n ih =>
   intro i acc h
   rw[lexFrom] at h
   split at h
   ·split at h
    ·rename_i q' hq
     cases h
     exact OI (kd:=q.1) (ps:=q.2) hq
    ·exact ih _ _ h
   ·cases h
 unfold jP at h
 split at h
 ·cases h;decide
 ·exact hl _ _ _ h
theorem lK{P:Program}{fn:Func}{R:Ending→World→Prop}{a:Act}{w:World}{p q:Tmp}{ty b E vK b2 E2:Nat}{cs cs2:Array Value}{d d2:TypeDesc}
  (hr:fn.results=#[.cell p ty,.cell q vK]) (hp:a.tmps.getD p undef=.pointer (some ⟨b,0,none⟩)) (hq:a.tmps.getD q undef=.pointer (some ⟨b2,0,none⟩)) (hb:Box w b cs E) (hb2:Box w b2 cs2 E2)
  (hu:P.underlying ty=some d) (hd:(match d with | .struct _ | .array _ _=>true | _=>false)=true) (hi:(P.info? ty).map (·.size)=some cs.size)
  (hu2:P.underlying vK=some d2) (hd2:(match d2 with | .struct _ | .array _ _=>true | _=>false)=true) (hi2:(P.info? vK).map (·.size)=some cs2.size)
  (hdf:a.defers=[]) (hR:R (.returned (.tuple #[.agg cs,.agg cs2])) w):bodyPost P fn R .ret a w :=
 ⟨hdf,_,by
  have hp':a.tmps[p]?.getD undef=.pointer (some ⟨b,0,none⟩):=by simpa using hp
  have hq':a.tmps[q]?.getD undef=.pointer (some ⟨b2,0,none⟩):=by simpa using hq
  simp[results,hr,hp',hq',asAddr,run_loadVar_row w b E ty cs (0,0) d hb hu hd hi,run_loadVar_row w b2 E2 vK cs2 (0,0) d2 hb2 hu2 hd2 hi2],hR⟩
theorem Am{w:World}{g n cap:Nat}{x:Lx}(h:ak w (.slice (some ⟨g,0,none⟩) n cap) 8 fV [x]):∀ j u,(fV x)[j]?=some u→w.cell? ⟨g,j,none⟩=some u:=fun j u hu=>by
 obtain⟨b,o,_,_,_,h4,h5⟩:=h.open
 have:=h4 0 (by simp)
 simp only[Option.some.injEq,Addr.mk.injEq] at this
 obtain⟨rfl,rfl,_⟩:=this
 have:=h5 0 (by simp) j u hu
 simpa using this
theorem Ih{w W:World}{V:Vt}{x:Tr}{c:Array Value}(hB:Below w.heap.size w W)(h0:Box W w.heap.size c 115)(h1:Box W (w.heap.size+1) #[.int .i64 0,.int .i64 0] 66)(hl:Lies W V)(hon:On (fun b=>w.heap.size+1<b) V)(hx:V.tr=x) :
  Box (((W.setRow w.heap.size V.cells.toArray).setCell ⟨w.heap.size+1,0,none⟩ (.int .i64 0)).setCell ⟨w.heap.size+1,1,none⟩ (.int .i64 0)) w.heap.size V.cells.toArray 115 ∧
  Box (((W.setRow w.heap.size V.cells.toArray).setCell ⟨w.heap.size+1,0,none⟩ (.int .i64 0)).setCell ⟨w.heap.size+1,1,none⟩ (.int .i64 0)) (w.heap.size+1) #[.int .i64 0,.int .i64 0] 66 ∧
  Ig w (.inr x) (.returned (.tuple #[.agg V.cells.toArray,.agg #[.int .i64 0,.int .i64 0]])) (((W.setRow w.heap.size V.cells.toArray).setCell ⟨w.heap.size+1,0,none⟩ (.int .i64 0)).setCell ⟨w.heap.size+1,1,none⟩ (.int .i64 0)) :=
 ⟨((h0.setRow V.cells.toArray).other ⟨w.heap.size+1,0,none⟩ (.int .i64 0) (by simp)).other ⟨w.heap.size+1,1,none⟩ (.int .i64 0) (by simp),((h1.setRow_other V.cells.toArray (by omega)).set 0 (.int .i64 0)).set 1 (.int .i64 0),
  ((below_setRow hB (Nat.le_refl _) V.cells.toArray).setCell (p:=⟨w.heap.size+1,0,none⟩) (by simp) (.int .i64 0)).setCell (p:=⟨w.heap.size+1,1,none⟩) (by simp) (.int .i64 0),V,rfl,hx,
  hl.eH hon fun b hb=>(heap_setCell_other _ ⟨w.heap.size+1,1,none⟩ b _ (by show b≠w.heap.size+1;omega)).trans ((heap_setCell_other _ ⟨w.heap.size+1,0,none⟩ b _ (by show b≠w.heap.size+1;omega)).trans (setRow_other W w.heap.size b _ (by omega))),hon.mono fun b hb=>by omega⟩
theorem NP{w W:World}{k p:Nat}{v0 v1:Value}(hB:Below w.heap.size w W)(h0:Box W w.heap.size bG 115)(h1:Box W (w.heap.size+1) #[v0,v1] 66){W8:World}(hW:W8=((((((((W.setCell ⟨w.heap.size,0,none⟩ (.int .i64 0)).setCell ⟨w.heap.size,1,none⟩ (.int .u64 0)).setCell ⟨w.heap.size,2,none⟩ (.int .u64 0)).setCell ⟨w.heap.size,3,none⟩ (.int .u64 0)).setCell ⟨w.heap.size,4,none⟩ (.int .u64 0)).setCell ⟨w.heap.size,5,none⟩ (.slice none 0 0)).setCell ⟨w.heap.size,6,none⟩ (.int .i64 0)).setCell ⟨w.heap.size,7,none⟩ (.int .i64 0))) :
  Box ((W8.setCell ⟨w.heap.size+1,0,none⟩ (.int .i64 k)).setCell ⟨w.heap.size+1,1,none⟩ (.int .i64 p)) w.heap.size bG 115∧Box ((W8.setCell ⟨w.heap.size+1,0,none⟩ (.int .i64 k)).setCell ⟨w.heap.size+1,1,none⟩ (.int .i64 p)) (w.heap.size+1) #[.int .i64 k,.int .i64 p] 66 ∧
  Ig w (.inl (k,p)) (.returned (.tuple #[.agg bG,.agg #[.int .i64 k,.int .i64 p]])) ((W8.setCell ⟨w.heap.size+1,0,none⟩ (.int .i64 k)).setCell ⟨w.heap.size+1,1,none⟩ (.int .i64 p)):=by
 have ho:=vO w.heap.size W (.int .i64 0) (.int .u64 0) (.int .u64 0) (.int .u64 0) (.int .u64 0) (.slice none 0 0) (.int .i64 0) (.int .i64 0)
 have hz:=aey h0
 rw[←hW] at ho hz
 have h2:=ho.box h1 (by omega)
 have hB2:=ho.low hB (Nat.le_refl _) (by have:=h0.lt;omega)
 exact⟨(hz.other ⟨w.heap.size+1,0,none⟩ (.int .i64 k) (by simp)).other ⟨w.heap.size+1,1,none⟩ (.int .i64 p) (by simp),(h2.set 0 (.int .i64 k)).set 1 (.int .i64 p),(hB2.setCell (p:=⟨w.heap.size+1,0,none⟩) (by simp) (.int .i64 k)).setCell (p:=⟨w.heap.size+1,1,none⟩) (by simp) (.int .i64 p),rfl⟩
theorem xU(N:Nat)(l:List UInt8):tZ N l=match jP l with
  | .inl q=>some (.inl q)
  | .inr L=>Ak N L:=rfl
theorem Ll(N:Nat)(hN:N≤1099511627776)(g:Nat×Nat)(n cap:Nat)(l:List UInt8)(w:World)(h:ak w (.slice (some ⟨g.1,g.2,none⟩) n cap) 1 bK l)(hg:g.1<w.heap.size)(Sj:OG l)(ans:Sum (Nat×Nat) Tr)(hans:tZ N l=some ans) :
  Calls Tryz.prog 100 #[.slice (some ⟨g.1,g.2,none⟩) n cap] w (Ig w ans):=by
 have hB0:Below w.heap.size w ((w.alloc (.cells bG 115)).alloc (.cells #[.int .i64 0,.int .i64 0] 66)):=((Below.refl _ w).alloc (Nat.le_refl _) _).alloc (by simp) _
 have hx0:Box ((w.alloc (.cells bG 115)).alloc (.cells #[.int .i64 0,.int .i64 0] 66)) w.heap.size bG 115:=(Box.new' rfl _ _).alloc _
 have hx1:Box ((w.alloc (.cells bG 115)).alloc (.cells #[.int .i64 0,.int .i64 0] 66)) (w.heap.size+1) #[.int .i64 0,.int .i64 0] 66:=Box.new' (by simp) _ _
 have hsp:=ZK g n cap l _ (h.kept hB0) (by have:=hB0.size;omega) Sj
 rw[xU] at hans
 cases hlx:jP l with
 | inl q =>
  rw[hlx] at hans
  obtain rfl:=Option.some.inj hans
  have hq0:=IK hlx
  have ek:((q.1:Int) != 0)=true:=by rw[bne_iff_ne];omega
  have hsp2:Calls Tryz.prog 134 #[.slice (some ⟨g.1,g.2,none⟩) n cap] ((w.alloc (.cells bG 115)).alloc (.cells #[.int .i64 0,.int .i64 0] 66)) (aY _ (.tuple #[.slice none 0 0,dZ q.1 q.2])):=hsp.mono fun e w' ⟨h1,h2⟩=>⟨(by rw[hlx] at h2;exact h2),h1⟩
  have HR:=ah hsp2
  clear hans hlx hsp hsp2 hq0 h hg
  go_enter Tryz.func100,Tryz.ntmps100
  go_wp2_with (go_at_call 134;go_must (refine HR.out.mono ?_;rintro e w1 ⟨rfl,hb1⟩;have hX0:=hx0.kept hb1;have hX1:=hx1.kept hb1;unfold dZ))
  have hY:=Box.new w1 #[.int .i64 q.1,.int .i64 q.2] 66
  have hB1:=(hB0.trans (hb1.mono hB0.size)).trans ((aj w1 (.cells #[.int .i64 q.1,.int .i64 q.2] 66)).mono (hB0.trans (hb1.mono hB0.size)).size)
  have Gg:=hX0.alloc (.cells #[.int .i64 q.1,.int .i64 q.2] 66)
  have Gh:=hX1.alloc (.cells #[.int .i64 q.1,.int .i64 q.2] 66)
  have hz1:=hX1.lt
  have hzw:w1.heap.size<(w1.alloc (.cells #[.int .i64 q.1,.int .i64 q.2] 66)).heap.size:=by simp
  generalize (w1.alloc (.cells #[.int .i64 q.1,.int .i64 q.2] 66))=W2 at *
  have HF:Hid (∀ u,Ic w.heap.size 115 bG W2.drew u→Box u w1.heap.size #[.int .i64 q.1,.int .i64 q.2] 66∧Box u w.heap.size bG 115∧Box u (w.heap.size+1) #[.int .i64 0,.int .i64 0] 66∧Below w.heap.size w u):=ah fun u hl =>
   ⟨hl.only.box hY.drew (by omega),hl.same Gg.drew,hl.only.box Gh.drew (by omega),hl.only.low (hB1.trans (Below.refl _ _).drew) (Nat.le_refl _) (by show w.heap.size≤W2.heap.size;omega)⟩
  clear hY hB1 Gg Gh hX0 hX1 hb1 hx0 hx1 hB0
  refine aA (R:=Ic w.heap.size 115 bG) 3 (by kernel_rfl) ?_
  refine zS (t:=3) (i:=1) rfl (by kernel_rfl) (by kernel_rfl) (by kernel_rfl) (by kernel_rfl) (fun _ _ _ h=>h) (by rfl) (fun w1 hl=>lW 66 _ rfl _ rfl ((HF.out w1 hl).1) Tryz.underlying66 rfl (eu)) ?_
  simp only[eA,eB,eC,Act.put,eD,eE,eF]
  refine jM 0 ?_ rfl (fun w1 hl=>?_) ?_
  rotate_left
  ·skip;go_simp;try with_reducible rfl
  simp only[eA,eB,Act.put,eD,eE,eF]
  refine aP (t:=3) (i:=2) (by kernel_rfl) rfl (fun w1 hl K hK=>?_)
  obtain⟨_,hX0,_,_⟩:=HF.out w1 hl
  obtain⟨f0,f1,f2,f3,f4,f5,f6,f7⟩:=hX0.vF
  have z0:=hX0.cell 0;have z1:=hX0.cell 1;have z2:=hX0.cell 2;have z3:=hX0.cell 3;have z4:=hX0.cell 4;have z5:=hX0.cell 5;have z6:=hX0.cell 6;have z7:=hX0.cell 7
  go_simp
  refine hK.out _ _ (fun _=>Ie) ?_
  have hl2:=(Ef _ _ _).trans _ _ _ hl (Ie (w:=w1) (b:=w.heap.size))
  clear hK K hl f0 f1 f2 f3 f4 f5 f6 f7 z0 z1 z2 z3 z4 z5 z6 z7 hX0
  refine aP (t:=3) (i:=3) (by kernel_rfl) rfl (fun w1 hl K hK=>?_)
  obtain⟨_,hX0,hX1,hB⟩:=HF.out w1 ((Ef _ _ _).trans _ _ _ hl2 hl)
  have z0:=hX1.cell 0;have z1:=hX1.cell 1;have f0:=hX1.free 0;have f1:=hX1.free 1
  go_simp
  refine hK.out _ _ (fun h=>absurd rfl h) ?_
  have hY0:=(hX0.other ⟨w.heap.size+1,0,none⟩ (.int .i64 q.1) (by simp)).other ⟨w.heap.size+1,1,none⟩ (.int .i64 q.2) (by simp)
  have Bz:=(hX1.set 0 (.int .i64 q.1)).set 1 (.int .i64 q.2)
  have hB2:=(hB.setCell (p:=⟨w.heap.size+1,0,none⟩) (by simp) (.int .i64 q.1)).setCell (p:=⟨w.heap.size+1,1,none⟩) (by simp) (.int .i64 q.2)
  clear hK K hl hl2 hX0 hX1 hB HF z0 z1 f0 f1
  refine aH (by kernel_rfl) (fun w1 hl=>?_) _
  have wV:=hl.same hY0
  have hZ1:=hl.only.box Bz (by simp)
  have hB3:=hl.only.low hB2 (Nat.le_refl _) (by have:=hY0.lt;omega)
  clear hl
  go_wp2
  exact lK Tryz.results100 rfl rfl wV hZ1 Tryz.underlying115 rfl (by kernel_rfl) Tryz.underlying66 rfl eu rfl ⟨hB3,rfl⟩
 | inr L =>
  rw[hlx] at hans
  have hR:=RY hlx
  have hsp2:Calls Tryz.prog 134 #[.slice (some ⟨g.1,g.2,none⟩) n cap] ((w.alloc (.cells bG 115)).alloc (.cells #[.int .i64 0,.int .i64 0] 66)) (fun e w1=>∃ a c,e=.returned (.tuple #[.slice a L.length c,.agg #[.int .i64 0,.int .i64 0]])∧Own w1 ((w.alloc (.cells bG 115)).alloc (.cells #[.int .i64 0,.int .i64 0] 66)).heap.size 221 8 fV (.slice a L.length c) L∧Below ((w.alloc (.cells bG 115)).alloc (.cells #[.int .i64 0,.int .i64 0] 66)).heap.size ((w.alloc (.cells bG 115)).alloc (.cells #[.int .i64 0,.int .i64 0] 66)) w1):=hsp.mono fun e w' ⟨h1,h2⟩=>by
   rw[hlx] at h2
   obtain⟨a,c,h3,h4⟩:=h2
   exact⟨a,c,h3,h4,h1⟩
  have HR:=ah hsp2
  have HRX:=ah hR
  have ahm:=fun a1 c1 u h1 h2=>PK N hN a1 c1 L.length L u h1 h2 hR ans hans
  have ZV:=ah ahm
  clear ahm hlx hsp hsp2 h hg hR
  by_cases h1:L.length=1
  ·obtain⟨x,rfl⟩:∃ x,L=[x]:=by
    match L,h1 with
    | [x],_=>exact⟨x,rfl⟩
   clear h1
   simp only[List.length_cons,List.length_nil,Nat.zero_add] at HR ZV
   by_cases hk:x.kind=1
   ·obtain⟨xk,xa,xs,xl,xh⟩:=x
    obtain rfl:xk=1:=hk
    have hone:=acS hans rfl
    by_cases hc:(elems xs).length=1
    ·subst hone
     clear ZV hans HRX
     have ec:(((elems xs).length:Int)==1)=true:=by rw[hc];rfl
     clear hc
     go_enter Tryz.func100,Tryz.ntmps100
     go_wp2_with (first | (go_at_call 134;go_must (refine HR.out.mono ?_;rintro e w1 ⟨a1,c1,rfl,ho1,hb1⟩;obtain⟨ga,rfl,hga⟩:=ho1.addr (by decide:0<1);have hsl:=ho1.slice xC;have hX0:=hx0.kept hb1;have hX1:=hx1.kept hb1;have Jz:=hX0.alloc (.cells #[.int .i64 0,.int .i64 0] 66);have JA:=hX1.alloc (.cells #[.int .i64 0,.int .i64 0] 66);have hs1:=hb1.size;have hz1:=hX1.lt;have hya:=Am (hsl.kept (aj w1 (.cells #[.int .i64 0,.int .i64 0] 66)));have y0:=hya 0 _ rfl;have y2:=hya 2 _ rfl;have y3:=hya 3 _ rfl;have y4:=hya 4 _ rfl;have y5:=hya 5 _ rfl)) | (go_at_call 135;go_must (refine(KG xs _).mono ?_;rintro e w2 ⟨rfl,hb2⟩;have acT:=Jz.kept hb2;have XH:=JA.kept hb2;have yc:=Am ((hsl.kept (aj w1 (.cells #[.int .i64 0,.int .i64 0] 66))).kept hb2);have t2:=yc 2 _ rfl;have t3:=yc 3 _ rfl;have t4:=yc 4 _ rfl;have t5:=yc 5 _ rfl)) | (go_at_call 136;go_must (refine(KI xs _).mono ?_;rintro e w3 ⟨V,rfl,hV,hl3,qy,hb3⟩;have fF:=acT.kept hb3;have gJ:=(XH.kept hb3).setRow_other (g:=w.heap.size) V.cells.toArray (by omega);have q0:=gJ.cell 0;have q1:=gJ.cell 1;have r0:=gJ.free 0;have r1:=gJ.free 1)) | (refine wpList_store_row rfl 115 (.tmp 2) (.tmp _) rfl w.heap.size _ rfl rfl _ _ fF (bP V) (by show 8=V.cells.toArray.size;rw[List.size_toArray,Vt.bI]) V.all ?_))
     have hB1:=hB0.trans (hb1.mono hB0.size)
     have hB2:=hB1.trans ((aj w1 (.cells #[.int .i64 0,.int .i64 0] 66)).mono hB1.size)
     have hB3:=hB2.trans (hb2.mono hB2.size)
     have hB4:=hB3.trans (hb3.mono hB3.size)
     have hs2:=hb2.size
     rw[World.size_alloc] at hs2
     obtain⟨e0,e1,e2⟩:=Ih hB4 fF (XH.kept hb3) hl3 (qy.mono fun b hb=>by omega) hV
     exact lK Tryz.results100 rfl rfl e0 e1 Tryz.underlying115 rfl (bP V) Tryz.underlying66 rfl eu rfl e2
    ·clear hone
     have ec:(((elems xs).length:Int)==1)=false:=by rw[beq_eq_false_iff_ne];omega
     clear hc
     go_enter Tryz.func100,Tryz.ntmps100
     go_wp2_with (first | (go_at_call 134;go_must (refine HR.out.mono ?_;rintro e w1 ⟨a1,c1,rfl,ho1,hb1⟩;obtain⟨ga,rfl,hga⟩:=ho1.addr (by decide:0<1);have hsl:=ho1.slice xC;have hX0:=hx0.kept hb1;have hX1:=hx1.kept hb1;have Jz:=hX0.alloc (.cells #[.int .i64 0,.int .i64 0] 66);have JA:=hX1.alloc (.cells #[.int .i64 0,.int .i64 0] 66);have hs1:=hb1.size;have hz1:=hX1.lt;have hya:=Am (hsl.kept (aj w1 (.cells #[.int .i64 0,.int .i64 0] 66)));have y0:=hya 0 _ rfl;have y2:=hya 2 _ rfl;have y3:=hya 3 _ rfl;have y4:=hya 4 _ rfl;have y5:=hya 5 _ rfl)) | (go_at_call 135;go_must (refine(KG xs _).mono ?_;rintro e w2 ⟨rfl,hb2⟩;have acT:=Jz.kept hb2;have XH:=JA.kept hb2;have yc:=Am ((hsl.kept (aj w1 (.cells #[.int .i64 0,.int .i64 0] 66))).kept hb2);have t2:=yc 2 _ rfl;have t3:=yc 3 _ rfl;have t4:=yc 4 _ rfl;have t5:=yc 5 _ rfl)))
     have hB1:=hB0.trans (hb1.mono hB0.size)
     have hB2:=hB1.trans ((aj w1 (.cells #[.int .i64 0,.int .i64 0] 66)).mono hB1.size)
     have hB3:=hB2.trans (hb2.mono hB2.size)
     have Gi:=(hsl.kept (aj w1 (.cells #[.int .i64 0,.int .i64 0] 66))).kept hb2
     have Gj:=acT
     have Ap:=XH
     have hgl:∀ ad,some (⟨ga,0,none⟩:Addr)=some ad→ad.block<w2.heap.size:=fun ad e=>by cases e;have:=(ho1.lQ ga rfl).2;have h2:=hb2.size;rw[World.size_alloc] at h2;show ga<_;omega
     have hs2:=hb2.size
     rw[World.size_alloc] at hs2
     refine(ZV.out _ _ _ Gi hgl).mono ?_
     intro e w3 hres
     clear Gi hgl
     cases ans with
     | inl q =>
      obtain⟨hb3,rfl⟩:=hres
      obtain⟨qk,qp⟩:=q
      have fF:=Gj.kept hb3
      have gJ:=Ap.kept hb3
      have q0:=gJ.cell 0;have q1:=gJ.cell 1;have r0:=gJ.free 0;have r1:=gJ.free 1
      obtain⟨f0,f1,f2,f3,f4,f5,f6,f7⟩:=fF.vF
      have z0:=fF.cell 0;have z1:=fF.cell 1;have z2:=fF.cell 2;have z3:=fF.cell 3;have z4:=fF.cell 4;have z5:=fF.cell 5;have z6:=fF.cell 6;have z7:=fF.cell 7
      unfold dZ
      go_wp2
      obtain⟨e0,e1,e2⟩:=NP (k:=qk) (p:=qp) (hB3.trans (hb3.mono hB3.size)) fF gJ rfl
      exact lK Tryz.results100 rfl rfl e0 e1 Tryz.underlying115 rfl (by kernel_rfl) Tryz.underlying66 rfl eu rfl e2
     | inr x3 =>
      obtain⟨hb3,V,rfl,hV,hl3,qy⟩:=hres
      have fF:=Gj.kept hb3
      have gJ:=(Ap.kept hb3).setRow_other (g:=w.heap.size) V.cells.toArray (by omega)
      have q0:=gJ.cell 0;have q1:=gJ.cell 1;have r0:=gJ.free 0;have r1:=gJ.free 1
      unfold dZ
      go_wp2_with (refine wpList_store_row rfl 115 (.tmp 2) (.tmp _) rfl w.heap.size _ rfl rfl _ _ fF (bP V) (by show 8=V.cells.toArray.size;rw[List.size_toArray,Vt.bI]) V.all ?_)
      obtain⟨e0,e1,e2⟩:=Ih (hB3.trans (hb3.mono hB3.size)) fF (Ap.kept hb3) hl3 (qy.mono fun b hb=>by omega) hV
      exact lK Tryz.results100 rfl rfl e0 e1 Tryz.underlying115 rfl (bP V) Tryz.underlying66 rfl eu rfl e2
   ·have ek:((x.kind:Int)==1)=false:=by rw[beq_eq_false_iff_ne];omega
    clear hk
    obtain⟨xk,xa,xs,xl,xh⟩:=x
    dsimp only at ek
    go_enter Tryz.func100,Tryz.ntmps100
    go_wp2_with (go_at_call 134;go_must (refine HR.out.mono ?_;rintro e w1 ⟨a1,c1,rfl,ho1,hb1⟩;obtain⟨ga,rfl,hga⟩:=ho1.addr (by decide:0<1);have hsl:=ho1.slice xC;have hX0:=hx0.kept hb1;have hX1:=hx1.kept hb1;have Jz:=hX0.alloc (.cells #[.int .i64 0,.int .i64 0] 66);have JA:=hX1.alloc (.cells #[.int .i64 0,.int .i64 0] 66);have hs1:=hb1.size;have hz1:=hX1.lt;have hya:=Am (hsl.kept (aj w1 (.cells #[.int .i64 0,.int .i64 0] 66)));have y0:=hya 0 _ rfl;have y2:=hya 2 _ rfl;have y3:=hya 3 _ rfl;have y4:=hya 4 _ rfl;have y5:=hya 5 _ rfl))
    have hB1:=hB0.trans (hb1.mono hB0.size)
    have hB3:=hB1.trans ((aj w1 (.cells #[.int .i64 0,.int .i64 0] 66)).mono hB1.size)
    have Gi:=hsl.kept (aj w1 (.cells #[.int .i64 0,.int .i64 0] 66))
    have Gj:=Jz
    have Ap:=JA
    have hgl:∀ ad,some (⟨ga,0,none⟩:Addr)=some ad→ad.block<(w1.alloc (.cells #[.int .i64 0,.int .i64 0] 66)).heap.size:=fun ad e=>by cases e;have:=(ho1.lQ ga rfl).2;rw[World.size_alloc];show ga<_;omega
    have hs2:w1.heap.size+1≤(w1.alloc (.cells #[.int .i64 0,.int .i64 0] 66)).heap.size:=by simp
    refine(ZV.out _ _ _ Gi hgl).mono ?_
    intro e w3 hres
    clear Gi hgl
    cases ans with
    | inl q =>
     obtain⟨hb3,rfl⟩:=hres
     obtain⟨qk,qp⟩:=q
     have fF:=Gj.kept hb3
     have gJ:=Ap.kept hb3
     have q0:=gJ.cell 0;have q1:=gJ.cell 1;have r0:=gJ.free 0;have r1:=gJ.free 1
     obtain⟨f0,f1,f2,f3,f4,f5,f6,f7⟩:=fF.vF
     have z0:=fF.cell 0;have z1:=fF.cell 1;have z2:=fF.cell 2;have z3:=fF.cell 3;have z4:=fF.cell 4;have z5:=fF.cell 5;have z6:=fF.cell 6;have z7:=fF.cell 7
     unfold dZ
     go_wp2
     obtain⟨e0,e1,e2⟩:=NP (k:=qk) (p:=qp) (hB3.trans (hb3.mono hB3.size)) fF gJ rfl
     exact lK Tryz.results100 rfl rfl e0 e1 Tryz.underlying115 rfl (by kernel_rfl) Tryz.underlying66 rfl eu rfl e2
    | inr x3 =>
     obtain⟨hb3,V,rfl,hV,hl3,qy⟩:=hres
     have fF:=Gj.kept hb3
     have gJ:=(Ap.kept hb3).setRow_other (g:=w.heap.size) V.cells.toArray (by omega)
     have q0:=gJ.cell 0;have q1:=gJ.cell 1;have r0:=gJ.free 0;have r1:=gJ.free 1
     unfold dZ
     go_wp2_with (refine wpList_store_row rfl 115 (.tmp 2) (.tmp _) rfl w.heap.size _ rfl rfl _ _ fF (bP V) (by show 8=V.cells.toArray.size;rw[List.size_toArray,Vt.bI]) V.all ?_)
     obtain⟨e0,e1,e2⟩:=Ih (hB3.trans (hb3.mono hB3.size)) fF (Ap.kept hb3) hl3 (qy.mono fun b hb=>by omega) hV
     exact lK Tryz.results100 rfl rfl e0 e1 Tryz.underlying115 rfl (bP V) Tryz.underlying66 rfl eu rfl e2
  ·have e1:((L.length:Int)==1)=false:=by rw[beq_eq_false_iff_ne];omega
   clear h1
   go_enter Tryz.func100,Tryz.ntmps100
   go_wp2_with (go_at_call 134;go_must (refine HR.out.mono ?_;rintro e w1 ⟨a1,c1,rfl,ho1,hb1⟩;have hsl:=ho1.slice xC;have hX0:=hx0.kept hb1;have hX1:=hx1.kept hb1;have Jz:=hX0.alloc (.cells #[.int .i64 0,.int .i64 0] 66);have JA:=hX1.alloc (.cells #[.int .i64 0,.int .i64 0] 66);have hs1:=hb1.size;have hz1:=hX1.lt))
   have hB1:=hB0.trans (hb1.mono hB0.size)
   have hB3:=hB1.trans ((aj w1 (.cells #[.int .i64 0,.int .i64 0] 66)).mono hB1.size)
   have Gi:=hsl.kept (aj w1 (.cells #[.int .i64 0,.int .i64 0] 66))
   have Gj:=Jz
   have Ap:=JA
   have hgl:∀ ad,a1=some ad→ad.block<(w1.alloc (.cells #[.int .i64 0,.int .i64 0] 66)).heap.size:=fun ad e=>by cases e;have:=(ho1.lQ _ rfl).2;rw[World.size_alloc];omega
   have hs2:w1.heap.size+1≤(w1.alloc (.cells #[.int .i64 0,.int .i64 0] 66)).heap.size:=by simp
   refine(ZV.out _ _ _ Gi hgl).mono ?_
   intro e w3 hres
   clear Gi hgl
   cases ans with
   | inl q =>
    obtain⟨hb3,rfl⟩:=hres
    obtain⟨qk,qp⟩:=q
    have fF:=Gj.kept hb3
    have gJ:=Ap.kept hb3
    have q0:=gJ.cell 0;have q1:=gJ.cell 1;have r0:=gJ.free 0;have r1:=gJ.free 1
    obtain⟨f0,f1,f2,f3,f4,f5,f6,f7⟩:=fF.vF
    have z0:=fF.cell 0;have z1:=fF.cell 1;have z2:=fF.cell 2;have z3:=fF.cell 3;have z4:=fF.cell 4;have z5:=fF.cell 5;have z6:=fF.cell 6;have z7:=fF.cell 7
    unfold dZ
    go_wp2
    obtain⟨e0,e1,e2⟩:=NP (k:=qk) (p:=qp) (hB3.trans (hb3.mono hB3.size)) fF gJ rfl
    exact lK Tryz.results100 rfl rfl e0 e1 Tryz.underlying115 rfl (by kernel_rfl) Tryz.underlying66 rfl eu rfl e2
   | inr x3 =>
    obtain⟨hb3,V,rfl,hV,hl3,qy⟩:=hres
    have fF:=Gj.kept hb3
    have gJ:=(Ap.kept hb3).setRow_other (g:=w.heap.size) V.cells.toArray (by omega)
    have q0:=gJ.cell 0;have q1:=gJ.cell 1;have r0:=gJ.free 0;have r1:=gJ.free 1
    unfold dZ
    go_wp2_with (refine wpList_store_row rfl 115 (.tmp 2) (.tmp _) rfl w.heap.size _ rfl rfl _ _ fF (bP V) (by show 8=V.cells.toArray.size;rw[List.size_toArray,Vt.bI]) V.all ?_)
    obtain⟨e0,e1,e2⟩:=Ih (hB3.trans (hb3.mono hB3.size)) fF (Ap.kept hb3) hl3 (qy.mono fun b hb=>by omega) hV
    exact lK Tryz.results100 rfl rfl e0 e1 Tryz.underlying115 rfl (bP V) Tryz.underlying66 rfl eu rfl e2
end
section
open Go.RowKit
theorem ZW(a b:List UInt8):((⟨a.toArray⟩:ByteArray)==⟨b.toArray⟩)=decide (a=b):=by
 rw[beq_toListBytes,Bool.eq_iff_iff,beq_iff_eq,decide_eq_true_eq]
 refine⟨fun h=>?_,fun h=>by rw[h]⟩
 have h2:∀ l:List UInt8,(⟨l.toArray⟩:ByteArray).toList=l:=fun l=>by
  rw[ByteArray.toList_eq]
 rw[h2,h2] at h
 exact h
theorem ZX{P:Program}{kt:TypeId}(ht:P.underlying kt=some .string):rW P kt (fun s:List UInt8=>sv s) :=
 Fg _ ht (fun a b=>by
  simp only[Instr.sameNow]
  rw[ZW]) (fun k e w=>by rw[show(10000:Nat)=9999+1 from rfl,Instr.checkKey];simp[run_underlying ht]) (fun k=>by
  show((⟨k.toArray⟩:ByteArray)==⟨k.toArray⟩)=true
  rw[ZW];simp)
theorem afW(xs:List UInt8):Value.string (Q9 (xs.map UInt8.toNat))=sv xs:=by
 unfold Q9 strOfNums
 congr 1
 apply ByteArray.ext
 simp[List.map_map,Function.comp_def]
theorem NQ{P:Program}{w:World}{src dst e:TypeId}(hs:P.underlying src=some (.slice e))(he:P.underlying e=some (.int .u8))(hd:P.underlying dst=some .string){a:Option Addr}{cap n:Nat}{xs:List UInt8}(hn:n=xs.length)(h:ak w (.slice a n cap) 1 bK xs) :
  (convert src dst (.slice a n cap)).run P w=.ok (sv xs) w:=by
 rw[←afW]
 refine Ox hs he hd (by simp[hn]) ?_
 obtain⟨a',b,o,cap',hv,hl,hc,ha,hx⟩:=h
 refine⟨a',b,o,cap',by simpa using hv,by simpa using hl,hc,ha.imp id (fun h=>⟨by rw[h.1];rfl,h.2⟩),fun i hi j u hu=>?_⟩
 have:=hx i (by simpa using hi) j u
 refine this ?_
 simpa using hu
theorem ak.aeA{w:World}{b o n cap:Nat}{s:List UInt8}(h:ak w (.slice (some ⟨b,o,none⟩) n cap) 1 bK s)(k:Nat)(hk:k≤n):ak w (.slice (some ⟨b,o,none⟩) k cap) 1 bK (s.take k):=by
 have:=ak.sub (f:=fun x:UInt8=>Value.int .u8 x.toNat) h 0 k (by omega)
 simpa [CB] using this
def jc(x:List UInt8×Vt):List Value:=sv x.1::x.2.cells
theorem Aq:fB jc 9:=⟨fun x=>by rw[jc,List.length_cons,Vt.bI],fun x u hu=>by
 rcases List.mem_cons.1 hu with rfl | hu
 ·rfl
 ·exact x.2.cells_one u hu⟩
theorem OM:dQ Tryz.prog 64 117 (.agg #[.string ⟨#[]⟩,.int .i64 0,.int .u64 0,.int .u64 0,.int .u64 0,.int .u64 0,.slice none 0 0,.int .i64 0,.int .i64 0]) 9 96 :=
 ⟨Tryz.underlying64,info_parts (by kernel_rfl),rfl,by decide⟩
abbrev vP(Rs:List (List UInt8×Vt)):List (List UInt8×Value):=Rs.map fun x=>(x.1,.bool true)
structure rC(w:World)(r qB:Nat)(a:Option Addr)(cap:Nat)(Rs:List (List UInt8×Vt))(m:Nat):Prop where
 box:Box w r #[.slice a Rs.length cap,.map (some m)] 103
 own:Own w qB 117 9 jc (.slice a Rs.length cap) Rs
 map:aJ w m (fun s:List UInt8=>sv s) (vP Rs)
 lies:∀ i (h:i<Rs.length),Lies w Rs[i].2
 on:∀ i (h:i<Rs.length),On (fun b=>qB≤b∧(Value.slice a Rs.length cap).ownBlock≠some b) Rs[i].2
 lt:r<qB∧m<qB∧r≠m
theorem rC.kept{w w':World}{r qB:Nat}{a:Option Addr}{cap:Nat}{Rs:List (List UInt8×Vt)}{m:Nat}(h:rC w r qB a cap Rs m)(hb:Below w.heap.size w w'):rC w' r qB a cap Rs m :=
 ⟨h.box.kept hb,h.own.kept hb,h.map.kept hb,fun i hi=>(h.lies i hi).kept hb,h.on,h.lt⟩
theorem Ar(nm:List UInt8)(Rs:List (List UInt8×Vt)):(look nm (vP Rs)).getD (.bool false)=.bool ((Rs.map (·.1)).contains nm):=by
 induction Rs with
 | nil=>rfl
 | cons x Rs ih =>
  rw[vP,List.map_cons,look,List.map_cons,List.contains_cons]
  by_cases h:nm=x.1
  ·rw[if_pos h];simp[h]
  ·rw[if_neg h]
   rw[show(nm==x.1)=false from by simpa using h,Bool.false_or];exact ih
def sH(have':List (List UInt8))(s:List UInt8):Sum (Nat×Nat) (List UInt8) :=
 if have'.length=64 then .inl (18,0) else if runFrom true s=0 then .inl (9,0) else if 32<runFrom true s then .inl (9,32)
 else if aX s (runFrom true s) 58=false then .inl (10,runFrom true s) else if have'.contains (s.take (runFrom true s)) then .inl (8,0) else .inr (s.take (runFrom true s))
theorem xW(N:Nat)(have':List (List UInt8))(s:List UInt8):zB N have' s=match sH have' s with
  | .inl q=>some (.inl q)
  | .inr nm=>(tZ N (s.drop (nm.length+1))).map fun r=>match r with | .inl q=>.inl (q.1,q.2+(nm.length+1)) | .inr x=>.inr (nm,x):=by
 unfold zB sH
 have hk:=vI true s
 have hl:(s.take (runFrom true s)).length=runFrom true s:=by rw[List.length_take,Nat.min_eq_left hk]
 dsimp only
 by_cases h1:have'.length=64
 ·rw[if_pos h1,if_pos h1]
 rw[if_neg h1,if_neg h1]
 by_cases h2:runFrom true s=0
 ·rw[if_pos h2,if_pos h2]
 rw[if_neg h2,if_neg h2]
 by_cases h3:32<runFrom true s
 ·rw[if_pos h3,if_pos h3]
 rw[if_neg h3,if_neg h3]
 by_cases h4:aX s (runFrom true s) 58=false
 ·rw[if_pos h4,if_pos h4]
 rw[if_neg h4,if_neg h4]
 by_cases h5:have'.contains (s.take (runFrom true s))=true
 ·rw[if_pos h5,if_pos h5]
 rw[if_neg h5,if_neg h5]
 dsimp only
 rw[hl]
 rfl
def aeB(w:World)(ans:Sum (Nat×Nat) (List UInt8))(e:Ending)(w':World):Prop:=aY w (match ans with | .inl q=>.tuple #[sv [],dZ q.1 q.2] | .inr nm=>.tuple #[sv nm,dZ 0 0]) e w'
theorem XI:(Tryz.prog.info? 4).map (fun i=>(i.zero,i.size))=some (some (.bool false),1):=by kernel_rfl
theorem OO(w:World):(zeroValue 4).run Tryz.prog w=.ok (.bool false) w:=(zero_of_info XI).1 w
theorem mQ:rW Tryz.prog 9 (fun s:List UInt8=>sv s):=ZX Tryz.underlying9
end
section
open Go.RowKit
theorem Sl{have':List (List UInt8)}{s:List UInt8}{q:Nat×Nat}(h:sH have' s=.inl q):q.1≠0:=by
 unfold sH at h
 split at h;· cases h;simp
 split at h;· cases h;simp
 split at h;· cases h;simp
 split at h;· cases h;simp
 split at h;· cases h;simp
 cases h
theorem Gl{have':List (List UInt8)}{s nm:List UInt8}(h:sH have' s=.inr nm):nm.length+1≤s.length∧have'.contains nm=false∧have'.length≠64∧nm.length≤32:=by
 unfold sH at h
 split at h;· cases h
 rename_i h1
 split at h;· cases h
 split at h;· cases h
 rename_i h3
 split at h;· cases h
 rename_i h4
 split at h;· cases h
 rename_i h5
 cases h
 rw[Bool.not_eq_false] at h4
 unfold aX at h4
 rw[Bool.and_eq_true,decide_eq_true_eq] at h4
 have:=h4.1
 refine⟨by rw[List.length_take];omega,by simpa using h5,h1,by rw[List.length_take];omega⟩
theorem afX:∀ n,(∀ d parts L q,jd n d parts L=some (.inl q)→q.1≠0)∧(∀ d parts L q,jK n d parts L=some (.inl q)→q.1≠0)∧(∀ d L q,kX n d L=some (.inl q)→q.1≠0):=by
 intro n
 induction n with
 | zero=>exact⟨fun d p L q h=>(by rw[jd] at h;cases h),fun d p L q h=>(by rw[jK] at h;cases h),fun d L q h=>(by rw[kX] at h;cases h)⟩
 | succ n ih =>
  refine⟨fun d parts L q h=>?_,fun d parts L q h=>?_,fun d L q h=>?_⟩
  ·rw[lJ] at h
   split at h
   ·cases h
   ·rename_i q' hq;cases h;exact ih.2.1 _ _ _ _ hq
   ·rename_i x r hx
    cases r with
    | nil=>cases h
    | cons a r =>
     by_cases h4:a.kind=4
     ·exact ih.1 _ _ _ _ ((if_pos h4).symm.trans h)
     ·have:=(if_neg h4).symm.trans h;cases this
  ·rw[jV] at h
   split at h
   ·cases h
   ·rename_i q' hq;cases h;exact ih.2.2 _ _ _ hq
   ·exact ih.2.1 _ _ _ _ h
   ·cases h
  ·cases L with
   | nil=>rw[uP] at h;cases h
   | cons a L =>
    rw[pq] at h
    split at h;· cases h
    split at h
    ·unfold pJ at h
     split at h
     ·cases h;simp
     ·cases hA:jd n (d+1) [] L with
      | none=>rw[hA] at h;cases h
      | some A =>
       rw[hA] at h
       cases A with
       | inl q'=>cases h;exact ih.1 _ _ _ _ hA
       | inr p =>
        obtain⟨x,R⟩:=p
        cases R with
        | nil=>cases h;simp
        | cons b R =>
         dsimp only at h
         split at h
         ·cases h
         ·cases h;simp
    split at h;· cases h;simp
    split at h;· cases h;simp
    cases h
theorem OQ{N:Nat}{l:List UInt8}{q:Nat×Nat}(h:tZ N l=some (.inl q)):q.1≠0:=by
 rw[xU] at h
 cases hl:jP l with
 | inl q'=>rw[hl] at h;cases h;exact IK hl
 | inr L =>
  rw[hl] at h
  have h:Ak N L=some (.inl q):=h
  unfold Ak at h
  split at h
  ·cases h;simp
  ·cases hA:jd N 0 [] L with
   | none=>rw[hA] at h;cases h
   | some A =>
    rw[hA] at h
    cases A with
    | inl q'=>cases h;exact(afX N).1 _ _ _ _ hA
    | inr p=>cases h
structure dH(r m:Nat)(ov:Value)(w w':World):Prop where
 os:w'.os=w.os
 tape:w'.tape=w.tape
 output:w'.output=w.output
 size:w.heap.size≤w'.heap.size
 block:∀ b,b<w.heap.size→b≠r→b≠m→ov.ownBlock≠some b→w'.heap[b]?=w.heap[b]?
theorem dH.below{r m:Nat}{ov:Value}{w w':World}(h:Below w.heap.size w w'):dH r m ov w w':=⟨h.os,h.tape,h.output,h.size,fun b hb _ _ _=>h.block b hb⟩
theorem dH.trans{r m:Nat}{ov yF:Value}{a b c:World}(h:dH r m ov a b)(f:dW a ov yF)(k:dH r m yF b c):dH r m ov a c :=
 ⟨k.os.trans h.os,k.tape.trans h.tape,k.output.trans h.output,Nat.le_trans h.size k.size,fun x hx hr hm hg=>(k.block x (Nat.lt_of_lt_of_le hx h.size) hr hm (f.ne hx hg)).trans (h.block x hx hr hm hg)⟩
theorem dH.tr{r m:Nat}{ov:Value}{a b c:World}(h:dH r m ov a b)(k:dH r m ov b c):dH r m ov a c:=h.trans (dW.refl _ _) k
theorem dH.only{r m b:Nat}{ov:Value}{w0 w w':World}(k:dH r m ov w0 w)(h:dY b w w')(hb:w0.heap.size≤b):dH r m ov w0 w' :=
 ⟨h.os.trans k.os,h.tape.trans k.tape,h.output.trans k.output,Nat.le_trans k.size h.size,fun x hx h1 h2 h3=>(h.block x (Nat.lt_of_lt_of_le hx k.size) (by omega)).trans (k.block x hx h1 h2 h3)⟩
section
variable {w w':World} {r qB:Nat} {a:Option Addr} {cap:Nat} {Rs:List (List UInt8×Vt)} {m:Nat}
theorem rC.lg(h:rC w r qB a cap Rs m)(g:Nat)(hg:(Value.slice a Rs.length cap).ownBlock=some g):qB≤g∧g<w.heap.size:=h.own.lQ g hg
theorem rC.only(h:rC w r qB a cap Rs m){b:Nat}(ho:dY b w w')(hb:qB≤b)(hown:(Value.slice a Rs.length cap).ownBlock≠some b)(hon:∀ i (h:i<Rs.length),On (fun x=>x≠b) Rs[i].2):rC w' r qB a cap Rs m:=by
 have hlt:=h.lt
 refine⟨ho.box h.box (by omega),h.own.fC fun g hg=>ho.block g (h.lg g hg).2 (fun e=>hown (e▸hg)),h.map.same (ho.block m h.map.lt (by omega)),fun i hi=>(h.lies i hi).eH ((hon i hi).and (h.lies i hi).on) fun x hx=>ho.block x hx.2 hx.1,h.on,hlt⟩
theorem VO{w0 w1 u:World}{nm:List UInt8}{V:Vt}{a':Option Addr}{cap':Nat}(hb:Box w1 r #[.slice a Rs.length cap,.map (some m)] 103)(hown:Own w1 qB 117 9 jc (.slice a Rs.length cap) Rs)(hm:aJ w1 m (fun s:List UInt8=>sv s) (vP (Rs++[(nm,V)])))
  (hl:∀ i (h:i<Rs.length),Lies w1 Rs[i].2) (hon:∀ i (h:i<Rs.length),On (fun b=>qB≤b∧(Value.slice a Rs.length cap).ownBlock≠some b) Rs[i].2) (Sm:Lies w1 V) (Lm:On (fun b=>w0.heap.size<b) V) (hol:∀ g,(Value.slice a Rs.length cap).ownBlock=some g→g<w0.heap.size)
  (hX:Box w1 w0.heap.size #[.int .i64 0,.int .i64 0] 66) (hk:dH r m (.slice a Rs.length cap) w0 w1) (hlt:r<qB∧m<qB∧r≠m) (hbw:qB≤w0.heap.size)
  (ho:Own w' qB 117 9 jc (.slice a' (Rs.length+1) cap') (Rs++[(nm,V)])) (hg:w1.grownBy w' (Value.slice a Rs.length cap).ownBlock) (hf:(Value.slice a' (Rs.length+1) cap').ownBlock=(Value.slice a Rs.length cap).ownBlock∨(Value.slice a' (Rs.length+1) cap').ownBlock=some w1.heap.size) (hu:Later w' u) :
  Box u r #[.slice a Rs.length cap,.map (some m)] 103∧rC (u.setCell ⟨r,0,none⟩ (.slice a' (Rs.length+1) cap')) r qB a' cap' (Rs++[(nm,V)]) m∧Box (u.setCell ⟨r,0,none⟩ (.slice a' (Rs.length+1) cap')) w0.heap.size #[.int .i64 0,.int .i64 0] 66 ∧
  dH r m (.slice a Rs.length cap) w0 (u.setCell ⟨r,0,none⟩ (.slice a' (Rs.length+1) cap'))∧dW w0 (.slice a Rs.length cap) (.slice a' (Rs.length+1) cap'):=by
 have hs:=hk.size
 have hbl:∀ g,(Value.slice a Rs.length cap).ownBlock=some g→qB≤g:=fun g hg=>(hown.lQ g hg).1
 have k1:∀ b,b<w1.heap.size→(Value.slice a Rs.length cap).ownBlock≠some b→u.heap[b]?=w1.heap[b]?:=fun b h1 h2=>(hu.block b (Nat.lt_of_lt_of_le h1 hg.size)).trans (hg.block b h1 fun e=>h2 e.symm)
 have k2:∀ b,b<w1.heap.size→(Value.slice a Rs.length cap).ownBlock≠some b→b≠r→(u.setCell ⟨r,0,none⟩ (.slice a' (Rs.length+1) cap')).heap[b]?=w1.heap[b]?:=fun b h1 h2 h3=>(heap_setCell_other u ⟨r,0,none⟩ b _ h3).trans (k1 b h1 h2)
 have nb:∀ b,b<qB→(Value.slice a Rs.length cap).ownBlock≠some b:=fun b h e=>by have:=hbl b e;omega
 have hbu:Box u r #[.slice a Rs.length cap,.map (some m)] 103:=(k1 r hb.lt (nb r hlt.1)).trans hb
 have hln:(Rs++[(nm,V)]).length=Rs.length+1:=by simp
 have tr:∀ X:Vt,Lies w1 X→On (fun b=>qB≤b∧(Value.slice a Rs.length cap).ownBlock≠some b) X→Lies (u.setCell ⟨r,0,none⟩ (.slice a' (Rs.length+1) cap')) X∧On (fun b=>qB≤b∧(Value.slice a' (Rs.length+1) cap').ownBlock≠some b) X:=fun X h1 h2=>by
  have h3:=h2.and h1.on
  refine⟨h1.eH h3 fun b hb=>k2 b hb.2 hb.1.2 (by omega),h3.mono fun b ⟨⟨hb1,hb2⟩,hb3⟩=>⟨hb1,?_⟩⟩
  rcases hf with hf | hf
  ·rw[hf];exact hb2
  ·rw[hf];intro e;have:=Option.some.inj e;omega
 have hV:=tr V Sm (Lm.mono fun b hb=>⟨by omega,fun e=>by have:=hol b e;omega⟩)
 refine⟨hbu,⟨by rw[hln];exact hbu.set 0 _,by rw[hln];exact(ho.kept hu).other _ _ hlt.1,hm.same (k2 m hm.lt (nb m hlt.2.1) (Ne.symm hlt.2.2)),fun i hi=>?_,fun i hi=>?_,hlt⟩,?_,⟨?_,?_,?_,?_,fun b h1 h2 h3 h4=>?_⟩,fun g e=>?_⟩
 ·by_cases h:i<Rs.length
  ·rw[List.getElem_append_left h];exact(tr _ (hl i h) (hon i h)).1
  ·have:i=Rs.length:=by rw[hln] at hi;omega
   subst this;simpa using hV.1
 ·rw[hln]
  by_cases h:i<Rs.length
  ·rw[List.getElem_append_left h];exact(tr _ (hl i h) (hon i h)).2
  ·have:i=Rs.length:=by rw[hln] at hi;omega
   subst this;simpa using hV.2
 ·exact(k2 _ hX.lt (fun e=>by have:=hol _ e;omega) (by omega)).trans hX
 ·exact hu.os.trans (hg.os.trans hk.os)
 ·exact hu.tape.trans (hg.tape.trans hk.tape)
 ·exact hu.output.trans (hg.output.trans hk.output)
 ·rw[World.size_setCell];exact Nat.le_trans hs (Nat.le_trans hg.size hu.size)
 ·exact(k2 b (by omega) h4 h2).trans (hk.block b h1 h2 h3 h4)
 ·rcases hf with hf | hf
  ·exact .inl (hf▸e)
  ·rw[hf] at e;exact .inr (by have:=Option.some.inj e;omega)
end
end
end Go.Proofs.YtengfapcaaacaaaGreatDoor
