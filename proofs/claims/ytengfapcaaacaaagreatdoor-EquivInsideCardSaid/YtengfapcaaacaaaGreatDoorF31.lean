/- The texts of E31, in few letters (mini.py). -/
import Derived.Test.YtengfapcaaacaaaGreatDoorF21
import Derived.Test.YtengfapcaaacaaaGreatDoorF29
set_option linter.unusedVariables false
set_option linter.unusedSimpArgs false
set_option maxRecDepth 20000
set_option maxHeartbeats 6400000
namespace Go.Proofs.YtengfapcaaacaaaGreatDoor
section
open Go.RowKit
theorem Un(f g:Nat→Nat):aC (aH (aY (aT (aH (iV f g))))) 256=eU f g:=by
 have E:=gY (iV f g)
 refine nI 256 fun b c hb hc=>?_
 rw[Bool.eq_iff_iff,←CG E hb hc]
 unfold aH aY
 simp
 omega
theorem aeO(f g:Nat→Nat)(h:jR f g=true):aC (aH (aY f)) 256=eU f g:=by
 rw[←aa5]
 have hs:=(BK f g).1 h
 refine nI 256 fun b c hb hc=>?_
 rw[qL,qL]
 unfold aH aY
 rw[hs b hb,hs c hc]
theorem Qb:(Tryz.prog.info? 128).map (fun it=>it.zero.map (fun z=>(z.cells.size,z.cells[520]?,z.cells[521]?,z.cells[522]?)))=some (some (523,some (.slice none 0 0),some (.pointer none),some (.slice none 0 0))):=by kernel_rfl
theorem Dn(A B:aA):Tryz.prog.built 128 [(0,.agg A.cells),(1,.agg B.cells)]=some (oK A B [.slice none 0 0,.pointer none,.slice none 0 0]):=by
 obtain⟨it,hi⟩:∃ it,Tryz.prog.info? 128=some it:=Option.isSome_iff_exists.1 (by kernel_rfl)
 have hz0:=Qb
 rw[hi] at hz0
 simp only[Option.map_some,Option.some.injEq] at hz0
 obtain⟨z,hz,hzs⟩:=Option.map_eq_some_iff.1 hz0
 simp only[Prod.mk.injEq] at hzs
 obtain⟨hzs,z0,z1,z2⟩:=hzs
 rw[Am (places:=[(0,260),(260,260),(520,1),(521,1),(522,1)]) _ hi Tryz.underlying128 hz (by kernel_rfl)]
 have hsA:=aA.size A
 have hsB:=aA.size B
 have hf1:=nP 0 A.cells.toList 0 z.cells
 have hg1:=fun i=>vZ 0 A.cells.toList 0 z.cells i (by rw[Array.length_toList];omega)
 rw[←rD] at hf1
 simp only[←rD] at hg1
 generalize hF:A.cells.zipIdx.foldl (fun cs (x:Value×Nat)=>cs.setIfInBounds (0+x.2) x.1) z.cells=F at *
 have hf2:=nP 260 B.cells.toList 0 F
 have hg2:=fun i=>vZ 260 B.cells.toList 0 F i (by rw[Array.length_toList];omega)
 rw[←rD] at hf2
 simp only[←rD] at hg2
 generalize hG:B.cells.zipIdx.foldl (fun cs (x:Value×Nat)=>cs.setIfInBounds (260+x.2) x.1) F=G at *
 have h0:Instr.fill (([(0,260),(260,260),(520,1),(521,1),(522,1)]:List (Nat×Nat)).toArray[·]?) z.cells [(0,.agg A.cells),(1,.agg B.cells)]=Instr.fill (([(0,260),(260,260),(520,1),(521,1),(522,1)]:List (Nat×Nat)).toArray[·]?) F [(1,.agg B.cells)]:=by
  rw[←hF]
  show(if (A.cells.size≠260||0+A.cells.size > z.cells.size)=true then none else _)=_
  rw[hsA,hzs,if_neg (by decide)]
  rfl
 have h1:Instr.fill (([(0,260),(260,260),(520,1),(521,1),(522,1)]:List (Nat×Nat)).toArray[·]?) F [(1,.agg B.cells)]=some G:=by
  rw[←hG]
  show(if (B.cells.size≠260||260+B.cells.size > F.size)=true then none else _)=_
  rw[hsB,hf1,hzs,if_neg (by decide)]
  rfl
 refine h0.trans (h1.trans (congrArg some (Array.ext_getElem? fun i=>?_)))
 rw[hg2 i,Array.length_toList,hsB,hg1 i,Array.length_toList,hsA]
 by_cases h1:i<260
 ·rw[if_neg (by omega),if_pos (by omega),Qr _ _ _ _ h1,Array.getElem?_toList];rfl
 ·by_cases h2:i<520
  ·obtain⟨j,rfl⟩:∃ j,i=260+j:=⟨i - 260,by omega⟩
   rw[if_pos (by omega),Qs _ _ _ _ (by omega),Array.getElem?_toList,show 260+j - (260+0)=j by omega]
  ·rw[if_neg (by omega),if_neg (by omega)]
   obtain⟨j,rfl⟩:∃ j,i=520+j:=⟨i - 520,by omega⟩
   rw[Lm]
   match j with
   | 0=>exact z0
   | 1=>exact z1
   | 2=>exact z2
   | j+3=>rw[Array.getElem?_eq_none (by omega)];rfl
theorem wpList_build{P:Program}{ops:Array Oper}{rest:List Oper}{o:Oper}{a:Act}{w:World}{Q:Exit→Act→World→Prop}(hgd:o.guard=none){t:TypeId}{parts:Array (Nat×Operand)}{cells:Array Value}{vals:List (Nat×Value)}(ho:o.op=.build t parts)(hv:parts.toList.map (fun p=>(p.1,a.eval p.2))=vals)(h:P.built t vals=some cells)
  (K:wpList P ops Q rest (a.put o.dst (.agg cells)) w):wpList P ops Q (o::rest) a w :=
 wpList_plain hgd fun _ hK=>by
  unfold Oper.wp
  rw[rC ho hv h]
  exact hK _ _ K
def MH(w:World)(A B:aA)(e:Ending)(w':World):Prop :=
 ∃ cb ub tb la lc,e=.returned (.pointer (some ⟨cb,0,none⟩))∧jy w' cb ub tb w'.heap.size A B (.slice la (eU A.of B.of).length lc) A.ln B.ln (fun i=>i) (A.ln+B.ln) [] none∧Own w' w.heap.size 5 1 dY (.slice la (eU A.of B.of).length lc) (eU A.of B.of)∧Below w.heap.size w w'∧w.heap.size≤cb∧w.heap.size≤ub∧w.heap.size≤tb
theorem Dp(A B:aA)(w:World)(hT:Tab w)(hA:A.ln≤65536)(hB:B.ln≤65536)(cA:A.lc≤9223372036854775807)(cB:B.lc≤9223372036854775807):Calls Tryz.prog 38 #[.agg A.cells,.agg B.cells] w (MH w A B):=by
 have hq:=EW (P:=Tryz.prog) (t:=22) (e:=5) Tryz.underlying22 Tryz.underlying5 (by kernel_rfl) A.of B.of
 have xA:=((Box.new w A.cells 27).alloc (.cells B.cells 27)).alloc (.cells (oK A B [.slice none 0 0,.pointer none,.slice none 0 0]) 128)
 have xB:=(Box.new' (World.size_alloc w (.cells A.cells 27)).symm B.cells 27).alloc (.cells (oK A B [.slice none 0 0,.pointer none,.slice none 0 0]) 128)
 have hb0:=(aj w (.cells A.cells 27)).alloc (aj w (.cells A.cells 27)).size (.cells B.cells 27)
 have hb1:=hb0.alloc hb0.size (.cells (oK A B [.slice none 0 0,.pointer none,.slice none 0 0]) 128)
 have xC:Box (((w.alloc (.cells A.cells 27)).alloc (.cells B.cells 27)).alloc (.cells (oK A B [.slice none 0 0,.pointer none,.slice none 0 0]) 128)) (w.heap.size+1+1) (oK A B [.slice none 0 0,.pointer none,.slice none 0 0]) 128:=Box.new' (by rw[World.size_alloc,World.size_alloc]) _ _
 have hwr:IntKind.i64.wrap ((A.ln:Int)+(B.ln:Int))=((A.ln+B.ln:Nat):Int):=by rw[IntWalk.i64_in _ (by omega)];omega
 have HT:=ah (fun(v:World) (hv:Below w.heap.size w v)=>hT.kept hv)
 have low:∃ L,eU A.of B.of=L:=⟨_,rfl⟩
 obtain⟨L,hL⟩:=low
 obtain⟨cb,hcb⟩:∃ cb,w.heap.size+1+1=cb:=⟨_,rfl⟩
 have HCB:=ah hcb
 rw[hcb] at xC
 unfold MH
 rw[hL]
 have Xa:=ah (fun v=>XP A.of B.of v)
 have hLj:∀ v:World,Below w.heap.size w v→Calls Tryz.prog 70 #[.agg (aG (aT (aH (iV A.of B.of))))] v (fV v 5 1 dY L):=fun v hv=>by
  have:=zN (aT (aH (iV A.of B.of))) v (hT.kept hv)
  rwa[Un,hL] at this
 have Uo:=ah hLj
 have hz:=gZ
 clear hLj hb0 hT
 cases hs:jR A.of B.of
 rotate_left
 focus
  rw[hs] at hq
  have hLs:∀ v:World,Below w.heap.size w v→Calls Tryz.prog 70 #[.agg (aG A.of)] v (fV v 5 1 dY L):=fun v hv=>by
   have:=zN A.of v (HT.out v hv)
   rwa[aeO _ _ hs,hL] at this
  have TL:=ah hLs
  have HL:=ah hL
  clear hLs hs hL
  go_enter Tryz.func38,Tryz.ntmps38
  go_wp2_with (first | (with_reducible refine Halt.go (p:=wpList _ _ _ ({ dst:=some 39,op:=_,type:=_,pos:=_,after:=_,guard:=_ }::_) _ _) ?_) | (refine wpList_build rfl (t:=128) rfl rfl (Dn A B) ?_) | (refine ak (by rfl) 27 _ rfl w.heap.size rfl _ _ _ _ ((Box.new w A.cells 27).alloc _) Tryz.underlying27 rfl (ay _) ?_) | (refine ak (by rfl) 27 _ rfl (w.heap.size+1) rfl _ _ _ _ (Box.new' (World.size_alloc w (.cells A.cells 27)).symm B.cells 27) Tryz.underlying27 rfl (ay _) ?_) | (refine gK (by rfl) 22 _ rfl w.heap.size rfl xA Tryz.underlying22 rfl (aK _) ?_) | (refine gK (by rfl) 22 _ rfl (w.heap.size+1) rfl xB Tryz.underlying22 rfl (aK _) ?_) | (go_at_call 70;go_must (refine(TL.out _ hb1).mono ?_;rintro e w4 ⟨la,lc,rfl,hl4,hb4⟩;have tZ:=xA.kept hb4;have ug:=xB.kept hb4;have Dq:=xC.kept hb4;have hB4:=hb1.trans (hb4.mono hb1.size);have p4:w4.cell? ⟨cb,520,none⟩=some (.slice none 0 0):=Dq.EH 0;have f4:=Dq.free 520;have l4:=Dq.lt;have hl5:=hl4.mono hb1.size;clear hl4)))
  have Xb:=tZ.other ⟨cb,520,none⟩ (.slice la L.length lc) (by show w.heap.size≠cb;omega)
  have MI:=ug.other ⟨cb,520,none⟩ (.slice la L.length lc) (by show w.heap.size+1≠cb;omega)
  have xC5:Box (w4.setCell ⟨cb,520,none⟩ (.slice la L.length lc)) cb (oK A B [.slice la L.length lc,.pointer none,.slice none 0 0]) 128:=Dq.SX 0 _
  have bI:Below w.heap.size w (w4.setCell ⟨cb,520,none⟩ (.slice la L.length lc)):=hB4.setCell (by show w.heap.size≤cb;omega) _
  have hO5:Own (w4.setCell ⟨cb,520,none⟩ (.slice la L.length lc)) w.heap.size 5 1 dY (.slice la L.length lc) L:=hl5.lD Dq (by decide) 520 _
  clear p4 f4 l4 tZ ug Dq hB4 hl5 hb4 xA xB xC hb1 hq TL
  generalize w4.setCell ⟨cb,520,none⟩ (.slice la L.length lc)=w5 at *
  clear w4
 rotate_left
 focus
  rw[hs] at hq
  have HL:=ah hL
  clear hs hL
  go_enter Tryz.func38,Tryz.ntmps38
  go_wp2_with (first | (with_reducible refine Halt.go (p:=wpList _ _ _ ({ dst:=some 39,op:=_,type:=_,pos:=_,after:=_,guard:=_ }::_) _ _) ?_) | (refine wpList_build rfl (t:=128) rfl rfl (Dn A B) ?_) | (refine ak (by rfl) 27 _ rfl w.heap.size rfl _ _ _ _ ((Box.new w A.cells 27).alloc _) Tryz.underlying27 rfl (ay _) ?_) | (refine ak (by rfl) 27 _ rfl (w.heap.size+1) rfl _ _ _ _ (Box.new' (World.size_alloc w (.cells A.cells 27)).symm B.cells 27) Tryz.underlying27 rfl (ay _) ?_) | (refine gK (by rfl) 22 _ rfl w.heap.size rfl xA Tryz.underlying22 rfl (aK _) ?_) | (refine gK (by rfl) 22 _ rfl (w.heap.size+1) rfl xB Tryz.underlying22 rfl (aK _) ?_) | (go_at_call 71;go_must (refine(Xa.out _).mono ?_;rintro e w3 ⟨rfl,hb3⟩)) | (refine dW rfl 22 (.tmp 6) (.tmp 29) rfl _ _ rfl rfl rfl (aK _) (iF _ _) (eu _) ?_) | (refine wpList_load_row rfl 22 (.tmp 6) rfl _ rfl _ _ _ _ (Box.new _ _ _) Tryz.underlying22 rfl (aK _) ?_) | (go_at_call 70;go_must (have hb2:=(hb1.trans (hb3.mono hb1.size));have Ur:=hb2.alloc hb2.size (.cells (aG (aT (aH (iV A.of B.of)))) 22);refine(Uo.out _ Ur).mono ?_;rintro e w4 ⟨la,lc,rfl,hl4,hb4⟩;have tZ:=((xA.kept hb3).alloc (.cells (aG (aT (aH (iV A.of B.of)))) 22)).kept hb4;have ug:=((xB.kept hb3).alloc (.cells (aG (aT (aH (iV A.of B.of)))) 22)).kept hb4;have Dq:=((xC.kept hb3).alloc (.cells (aG (aT (aH (iV A.of B.of)))) 22)).kept hb4;have hB4:=Ur.trans (hb4.mono Ur.size);have p4:w4.cell? ⟨cb,520,none⟩=some (.slice none 0 0):=Dq.EH 0;have f4:=Dq.free 520;have l4:=Dq.lt;have hl5:=hl4.mono Ur.size;clear hl4)))
  have Xb:=tZ.other ⟨cb,520,none⟩ (.slice la L.length lc) (by show w.heap.size≠cb;omega)
  have MI:=ug.other ⟨cb,520,none⟩ (.slice la L.length lc) (by show w.heap.size+1≠cb;omega)
  have xC5:Box (w4.setCell ⟨cb,520,none⟩ (.slice la L.length lc)) cb (oK A B [.slice la L.length lc,.pointer none,.slice none 0 0]) 128:=Dq.SX 0 _
  have bI:Below w.heap.size w (w4.setCell ⟨cb,520,none⟩ (.slice la L.length lc)):=hB4.setCell (by show w.heap.size≤cb;omega) _
  have hO5:Own (w4.setCell ⟨cb,520,none⟩ (.slice la L.length lc)) w.heap.size 5 1 dY (.slice la L.length lc) L:=hl5.lD Dq (by decide) 520 _
  clear p4 f4 l4 tZ ug Dq hB4 hl5 hb4 xA xB xC hb1 hq Uo Xa hb2 Ur
  generalize w4.setCell ⟨cb,520,none⟩ (.slice la L.length lc)=w5 at *
  clear w4
 all_goals
  unfold Halt
  obtain⟨_,_,y0,_⟩:=Xb.ig
  obtain⟨_,_,z0,_⟩:=MI.ig
  have l0:=Xb.lt;have l1:=MI.lt;have l2:=xC5.lt
  have f5:=xC5.free 521
  have p5:w5.cell? ⟨cb,521,none⟩=some (.pointer none):=xC5.EH 1
  go_wp2_with (go_at_call 72;go_must (refine(aiw (A.ln+B.ln) (by omega) w5).mono ?_;rintro e w6 ⟨ub,tb,rfl,hub,htb,hU,hb6⟩;have xC6:=xC5.kept hb6;have f6:=xC6.free 521;have p6:w6.cell? ⟨cb,521,none⟩=some (.pointer none):=xC6.EH 1;have l6:=xC6.lt;have HU:=ah hU;have HX:=ah xC6;clear hU xC6))
  go_ret
  have hc:=HU.out.cells
  have hlC:=HX.out.lt
  refine⟨cb,ub,tb,la,lc,rfl,⟨⟨none,0,rfl,HX.out.SX 1 _,kU.nil _ _ _ _ _⟩,⟨_,_,_,HU.out.only (bM.set (S:=(·=cb)) (bM.refl _ _) cb rfl _ _) (by omega) (by omega)⟩,⟨by rw[World.size_setCell];exact hlC,by rw[World.size_setCell];exact hc.2.2.1,by rw[World.size_setCell];exact hc.2.2.2.1,Nat.le_refl _⟩,by omega,by omega⟩,(hO5.kept hb6).lD HX.out (by decide) 521 _,(bI.trans (hb6.mono bI.size)).setCell (by show w.heap.size≤cb;omega) _,by omega,?_,?_⟩
  ·have:=bI.size;omega
  ·have:=bI.size;omega
end
section
open Go.RowKit
structure AA(w:World)(base:Nat)(l:List ((Nat×Nat)×Int×Nat))(v1 v2 v3:Value):Prop where
 ps:Own w base 79 2 Eb v1 (l.map (·.1))
 fs:Own w base 3 1 encI v2 (l.map (·.2.1))
 bs:Own w base 5 1 dY v3 (l.map (·.2.2))
theorem AA.kept{w w':World}{base:Nat}{l:List ((Nat×Nat)×Int×Nat)}{v1 v2 v3:Value}(h:AA w base l v1 v2 v3)(hb:Below w.heap.size w w'):AA w' base l v1 v2 v3:=⟨h.ps.kept hb,h.fs.kept hb,h.bs.kept hb⟩
theorem AA.cells{w:World}{base:Nat}{l:List ((Nat×Nat)×Int×Nat)}{v1 v2 v3:Value}(h:AA w base l v1 v2 v3){i:Nat}(hi:i<l.length):∃ g c,v1=.slice (some ⟨g,0,none⟩) l.length c∧l.length≤c∧c≤9223372036854775807∧g<w.heap.size∧∀ u:World,u.heap[g]?=w.heap[g]?→∀ j (h:j<l.length),u.cell? ⟨g,j*2,none⟩=some (.int .i64 ((l[j]).1.1:Nat))∧u.cell? ⟨g,j*2+1,none⟩=some (.int .i64 ((l[j]).1.2:Nat)):=by
 have hlm:(l.map (·.1)).length=l.length:=List.length_map ..
 obtain⟨a,c,hv⟩:=h.ps.form
 have ho:=h.ps
 subst hv
 obtain⟨e,e1,e2,g,cur,ha,hx⟩:=ho.open
 obtain⟨_,hb,_,hc⟩:=hx (by omega)
 refine⟨g,c,by rw[ha i (by omega),hlm],by omega,e2,hb.lt,fun u hu j hj=>?_⟩
 have hb2:Box u g cur 79:=hu.trans hb
 have q0:=hc j (by omega) 0 (by decide)
 have q1:=hc j (by omega) 1 (by decide)
 simp only[List.getElem_map] at q0 q1
 exact⟨(hb2.cell _).trans (by rw[Nat.add_zero] at q0;rw[q0];rfl),(hb2.cell _).trans (by rw[q1];rfl)⟩
theorem G7{α:Type}{w:World}{base E size:Nat}{enc:α→List Value}(he:dX enc size)(x:α)(cs:Array Value)(hc:cs.toList=enc x)(g:Nat)(hb:Box w g cs E)(hg:base≤g):Own w base E size enc (.slice (some ⟨g,0,none⟩) 1 1) [x]:=by
 have hl:cs.size=size:=by rw[←Array.length_toList,hc,he.len]
 refine⟨_,1,rfl,Nat.le_refl _,by simp[maxLen],.inr ⟨g,cs,rfl,hg,hb,by rw[hl,Nat.one_mul],fun i hi j hj=>?_⟩⟩
 obtain rfl:i=0:=by simpa using hi
 rw[Nat.zero_mul,Nat.zero_add,←Array.getElem?_toList,hc];rfl
theorem MJ{σ:Type}[DecidableEq σ](l:List (σ×Int×Nat))(x:σ×Int×Nat):(x.1∈l.map (·.1)→wW l x=l)∧(x.1 ∉ l.map (·.1)→wW l x=l++[x]):=by
 unfold wW
 exact⟨fun h=>if_pos (List.contains_iff_mem.2 h),fun h=>if_neg (fun e=>h (List.contains_iff_mem.1 e))⟩
end
section
open Go.RowKit
theorem Xc{α:Type}{l:List α}(h:l.length=2):∃ a b,l=[a,b]:=by
 match l,h with
 | [a,b],_=>exact⟨a,b,rfl⟩
abbrev zu(p:Nat×Nat):Value:=.agg #[.int .i64 (p.1:Nat),.int .i64 (p.2:Nat)]
theorem PL:(Tryz.prog.fieldsOf 140).toList.map (fun f=>(f.name,f.type,f.offset))=[("s",3,0),("t",3,1)]:=by kernel_rfl
theorem Us:Tryz.prog.underlying 140=some (.struct (Tryz.prog.fieldsOf 140)):=by kernel_rfl
theorem xu(cs:Array Value)(off:Nat)(v:Value)(h:cs[off]?=some v)(w:World):(part 3 cs off).run Tryz.prog w=.ok v w:=by
 simp[part,isAgg,run_underlying Tryz.underlying3,Result.andThen,h]
theorem alK(p q:Nat×Nat)(w:World):(Op.equal 140 (zu p) (zu q)).run Tryz.prog w=.ok (decide (p=q)) w:=by
 obtain⟨a,b⟩:=p
 obtain⟨c,d⟩:=q
 unfold Op.equal
 rw[show Op.maxDepth=9999+1 from rfl,run_equalIn_struct w 9999 _ _ _ Us (by kernel_rfl)]
 have hf:=PL
 generalize (Tryz.prog.fieldsOf 140).toList=fs at hf
 have hl:fs.length=2:=by have:=congrArg List.length hf;simpa using this
 obtain⟨f1,f2,rfl⟩:=Xc hl
 ·simp only[List.map_cons,List.map_nil,List.cons.injEq,Prod.mk.injEq,and_true] at hf
  obtain⟨⟨n1,t1,o1⟩,n2,t2,o2⟩:=hf
  have e1:=run_equalIn_int (P:=Tryz.prog) w 9998 3 .i64 .i64 (a:Int) c Tryz.underlying3
  have e2:=run_equalIn_int (P:=Tryz.prog) w 9998 3 .i64 .i64 (b:Int) d Tryz.underlying3
  have p1:=fun v h=>xu #[.int .i64 (a:Nat),.int .i64 (b:Nat)] 0 v h w
  have p2:=fun v h=>xu #[.int .i64 (a:Nat),.int .i64 (b:Nat)] 1 v h w
  have p3:=fun v h=>xu #[.int .i64 (c:Nat),.int .i64 (d:Nat)] 0 v h w
  have p4:=fun v h=>xu #[.int .i64 (c:Nat),.int .i64 (d:Nat)] 1 v h w
  have q1:=p1 (.int .i64 (a:Nat)) rfl
  have q2:=p2 (.int .i64 (b:Nat)) rfl
  have q3:=p3 (.int .i64 (c:Nat)) rfl
  have q4:=p4 (.int .i64 (d:Nat)) rfl
  clear p1 p2 p3 p4
  simp only[Op.eqFields,n1,n2,t1,t2,o1,o2]
  rw[if_pos (show("s" : String)≠"_" by decide),if_pos (show("t" : String)≠"_" by decide)]
  simp only[Sem.run_bind]
  rw[q1]
  simp only[Result.andThen_ok]
  rw[q3]
  simp only[Result.andThen_ok,e1]
  by_cases h1:a=c
  ·subst h1
   simp only[beq_self_eq_true,Bool.not_true,Bool.false_eq_true,if_false,Sem.run_bind]
   rw[q2]
   simp only[Result.andThen_ok]
   rw[q4]
   simp only[Result.andThen_ok,e2]
   by_cases h2:b=d
   ·subst h2
    simp
   ·have h3:((b:Int)==(d:Int))=false:=by simp;omega
    simp[h2,h3]
  ·have h3:((a:Int)==(c:Int))=false:=by simp;omega
   simp[h1,h3]
theorem JK:o7 Tryz.prog 140 zu:=by
 refine⟨fun k b w=>?_,fun k ks es w hes=>?_,fun k=>?_⟩
 ·have gen:∀ n,(Instr.checkKey b (n+2) 140 (zu k)).run Tryz.prog w=.ok () w:=fun n=>by
   rw[Instr.checkKey]
   simp only[Sem.run_bind,run_underlying Us,Result.andThen_ok]
   rw[←Array.forIn_toList]
   have hf:=PL
   generalize (Tryz.prog.fieldsOf 140).toList=fs at hf
   have hl:fs.length=2:=by have:=congrArg List.length hf;simpa using this
   obtain⟨f1,f2,rfl⟩:=Xc hl
   ·simp only[List.map_cons,List.map_nil,List.cons.injEq,Prod.mk.injEq,and_true] at hf
    obtain⟨⟨n1,t1,o1⟩,n2,t2,o2⟩:=hf
    have p1:=fun v h=>xu #[.int .i64 (k.1:Nat),.int .i64 (k.2:Nat)] 0 v h w
    have p2:=fun v h=>xu #[.int .i64 (k.1:Nat),.int .i64 (k.2:Nat)] 1 v h w
    have q1:=p1 (.int .i64 (k.1:Nat)) rfl
    have q2:=p2 (.int .i64 (k.2:Nat)) rfl
    simp[n1,n2,t1,t2,o1,o2,q1,q2,Instr.checkKey,run_underlying Tryz.underlying3,Result.andThen]
  exact gen 9998
 ·have hf:=yM zu alK k w ks es 0 hes
  simp only[Nat.zero_add] at hf
  simp only[Instr.findKey,Sem.run_bind,run_underlying Us,Result.andThen_ok]
  cases es with
  | nil =>
   obtain rfl:ks=[]:=by simpa using hes.symm
   simp[Instr.findNow,pos]
  | cons e0 es =>
   cases ks with
   | nil=>simp at hes
   | cons a ks =>
    have hn:∀ kd,Instr.findNow (TypeDesc.struct kd) (zu k) (e0::es) 0=none:=fun kd=>by
     simp[Instr.findNow,Instr.sameNow]
    rw[hn];exact hf
 ·rw[show(10000:Nat)=9998+1+1 from rfl,Instr.sameBits];simp[Instr.sameBits]
end
section
open Go.RowKit
def S3(cb ub tb:Nat)(b:Nat):Prop:=b=cb∨b=ub∨b=tb
def MK(cb ub:Nat)(w:World):Nat:=(match w.cell? ⟨ub,1,none⟩ with | some (.int _ c)=>2*c.toNat | _=>0)+(match w.cell? ⟨cb,522,none⟩ with | some (.slice _ n _)=>n | _=>0)
theorem jy.left{w:World}{cb ub tb top:Nat}{A B:aA}{lv:Value}{n m:Nat}{rep:Nat→Nat}{k:Nat}{W:List (Nat×Nat)}{g:Option Nat}(h:jy w cb ub tb top A B lv n m rep k W g):MK cb ub w=2*k+W.length:=by
 obtain⟨a,c,_,h1,_⟩:=h.box
 obtain⟨_,_,_,hu⟩:=h.uni
 have e1:w.cell? ⟨ub,1,none⟩=some (.int .i64 (k:Nat)):=hu.cells.2.1
 have e2:w.cell? ⟨cb,522,none⟩=some (.slice a W.length c):=h1.EH 2
 unfold MK
 rw[e1,e2]
 simp
attribute [irreducible] MK
theorem jy.pop{w:World}{cb ub tb top:Nat}{A B:aA}{lv:Value}{n m:Nat}{rep:Nat→Nat}{k:Nat}{W:List (Nat×Nat)}{p:Nat×Nat}{g:Option Nat}(h:jy w cb ub tb top A B lv n m rep k (W++[p]) g) :
  ∃ gb c,g=some gb∧W.length+1≤c∧c≤9223372036854775807∧w.cell? ⟨cb,522,none⟩=some (.slice (some ⟨gb,0,none⟩) (W.length+1) c)∧w.cell? ⟨gb,W.length*2,none⟩=some (.int .i64 (p.1:Nat))∧w.cell? ⟨gb,W.length*2+1,none⟩=some (.int .i64 (p.2:Nat))∧w.frozen? ⟨cb,522,none⟩=false ∧
   jy (w.setCell ⟨cb,522,none⟩ (.slice (some ⟨gb,0,none⟩) W.length W.length)) cb ub tb top A B lv n m rep k W g:=by
 obtain⟨a,c,h0,h1,h2⟩:=h.box
 obtain⟨h,H,up,hu⟩:=h.uni
 rename_i hC
 obtain⟨e1,e2,e3,gb,ha,hx⟩:=h2.cell uD.len
 have hl:(W++[p]).length=W.length+1:=by simp
 have hg:(W++[p])[W.length]'(by rw[hl];exact Nat.lt_succ_self _)=p:=by simp
 obtain rfl:=ha W.length (by rw[hl];exact Nat.lt_succ_self _)
 have x0:=hx W.length (by rw[hl];exact Nat.lt_succ_self _) 0 (by decide)
 have x1:=hx W.length (by rw[hl];exact Nat.lt_succ_self _) 1 (by decide)
 rw[hg] at x0 x1
 rw[hl] at h1 h2 e2
 have hgb:=h2.row gb rfl
 have hlt:=hC.lt
 have hcut:=h2.cut uD.len
 refine⟨gb,c,h0,e2,e3,h1.EH 2,x0,x1,h1.free 522,⟨⟨_,_,h0,h1.SX 2 _,hcut.same fun b hb=>heap_setCell_other _ _ _ _ (fun e=>?_)⟩,⟨_,_,_,hu.only (bM.set (S:=(·=cb)) (bM.refl _ _) cb rfl _ _) (fun e=>hC.ne.1 e.symm) (fun e=>hC.ne.2 e.symm)⟩,⟨hlt.1,hlt.2.1,hlt.2.2.1,by rw[World.size_setCell];exact hlt.2.2.2⟩,hC.ne⟩⟩
 have e':b=cb:=e
 have:=(hcut.row b hb).1
 omega
theorem akd{w0:World}{base cb ub tb:Nat}{la:Option Addr}{lc:Nat}{L:List Nat}{c1 c2 c3:Array Value}{T1 T2 T3:Nat}(h:Own w0 base 5 1 dY (.slice la L.length lc) L)(h1:Box w0 cb c1 T1)(h2:Box w0 ub c2 T2)(h3:Box w0 tb c3 T3)(n1:5≠T1)(n2:5≠T2)(n3:5≠T3) :
  L.length≤lc∧lc≤9223372036854775807∧∃ lb,∀ i (hi:i<L.length),la=some ⟨lb,0,none⟩∧∀ u,bM (S3 cb ub tb) w0 u→u.cell? ⟨lb,i,none⟩=some (.int .u8 (L[i]:Nat)):=by
 obtain⟨_,e1,e2,g,cur,ha,hx⟩:=h.open
 refine⟨e1,e2,g,fun i hi=>⟨ha i hi,fun u hu=>?_⟩⟩
 obtain⟨_,hb,_,hc⟩:=hx (by omega)
 refine hu.cell ?_ ?_
 ·rw[hb.cell]
  have:=hc i hi 0 (by decide)
  rw[Nat.mul_one,Nat.add_zero] at this
  rw[this];rfl
 ·rintro(e | e | e)
  ·have e':g=cb:=e
   subst e';exact n1 (hb.iD h1)
  ·have e':g=ub:=e
   subst e';exact n2 (hb.iD h2)
  ·have e':g=tb:=e
   subst e';exact n3 (hb.iD h3)
theorem Zd{w w':World}{cb ub tb top:Nat}{A B:aA}{lv:Value}{n m k s t:Nat}{L:List Nat}{PA PB:aQ}(h:adZ w cb ub tb top A B lv n m (fun i=>i) k [] none s t w')(hs:s<n)(ht:t<m) :
  ∃ rep k' g',k'+1=k∧jy w' cb ub tb top A B lv n m rep k' [(s,t)] g'∧sJ PA PB L n m (s,t) rep [(s,t)] [(s,t)]∧ny PA PB L n rep [(s,t)] [(s,t)] none:=by
 rcases h with⟨h,_⟩ | ⟨_,a,b,k',g',hab,hk,hC,_⟩
 ·exact absurd (show s=n+t from h) (by omega)
 ·exact⟨_,k',g',hk,hC,sJ.first PA PB L n m (s,t) hs ht hab,ny.first _ _⟩
theorem VH{α:Type}(l:List α):l=[]∨∃ a b,l=a++[b]:=by
 rcases List.eq_nil_or_concat l with h | ⟨a,b,h⟩
 ·exact .inl h
 ·exact .inr ⟨a,b,by simpa using h⟩
theorem ab4{w w':World}{cb ub tb top:Nat}{A B:aA}{lv:Value}{n m k:Nat}{L:List Nat}{PA PB:aQ}{rep:Nat→Nat}{J W:List (Nat×Nat)}{g:Option Nat}{p0 p:Nat×Nat}{cs:List Nat}{c:Nat}(h:adZ w cb ub tb top A B lv n m rep k W g (fP PA PB p c).1 (fP PA PB p c).2 w')
  (hI:sJ PA PB L n m p0 rep J W) (hD:ny PA PB L n rep J W (some (p,cs))) (hm:jW PA PB L p0 p) (hc:c∈L) (h1:(fP PA PB p c).1<n) (h2:(fP PA PB p c).2<m) (H9:∀ i,i<n+m→rep i<n+m) (rr:∀ i,i<n+m→rep (rep i)=rep i) :
  ∃ BR k' g' J' W',jy w' cb ub tb top A B lv n m BR k' W' g'∧sJ PA PB L n m p0 BR J' W'∧ny PA PB L n BR J' W' (some (p,cs++[c]))∧W'.length+k'≤W.length+k∧2*k'+W'.length≤2*k+W.length∧(g'=g∨∃ x,g'=some x∧w.heap.size≤x):=by
 rcases h with⟨h,hC⟩ | ⟨_,a,b,k',g',hab,hk,hC,hg⟩
 ·exact⟨_,_,_,_,_,hC,hI,hD.same h,Nat.le_refl _,Nat.le_refl _,.inl rfl⟩
 ·refine⟨_,_,_,_,_,hC,hI.join (x:=fP PA PB p c) h1 h2 (hm.on hc) H9 rr hab,?_,?_,?_,hg⟩
  ·refine(ny.join (x:=fP PA PB p c) hD).same ?_
   rcases hab with⟨ha,hb⟩ | ⟨hb,ha⟩
   ·show(if rep _=b then a else rep _)=(if rep _=b then a else rep _)
    rw[←ha,←hb,if_pos rfl];split <;> rfl
   ·show(if rep _=b then a else rep _)=(if rep _=b then a else rep _)
    rw[←ha,←hb,if_pos rfl];split <;> rfl
  ·rw[List.length_append,List.length_singleton];omega
  ·rw[List.length_append,List.length_singleton];omega
theorem bM.wait{w0 w w':World}{cb ub tb:Nat}{g:Option Nat}(h:bM (S3 cb ub tb) w0 w)(k:bM (CS cb ub tb g) w w')(hg:∀ b,g=some b→w0.heap.size≤b):bM (S3 cb ub tb) w0 w' :=
 ⟨k.os.trans h.os,k.tape.trans h.tape,k.output.trans h.output,Nat.le_trans h.size k.size,fun b hb hn=>(k.block b (Nat.lt_of_lt_of_le hb h.size) (by
  rintro(e | e | e | e)
  ·exact hn (.inl e)
  ·exact hn (.inr (.inl e))
  ·exact hn (.inr (.inr e))
  ·have:=hg b e;omega)).trans (h.block b hb hn)⟩
def ab5(wm:World)(A B:aQ)(L:List Nat)(p:Nat×Nat)(e:Ending)(w':World):Prop:=∃ b,e=.returned (.bool b)∧(b=true↔Qp A B L p)∧Below wm.heap.size wm w'
theorem aeP(cb ub tb:Nat)(VA VB:aA)(A B:aQ)(wm w0:World)(hA:aZ wm VA A)(hB:aZ wm VB B)(wA:gQ A)(wB:gQ B)(hm:Below wm.heap.size wm w0)
  (L:List Nat) (la:Option Addr) (lc:Nat) (hC:jy w0 cb ub tb w0.heap.size VA VB (.slice la L.length lc) A.label.length B.label.length (fun i=>i) (A.label.length+B.label.length) [] none) (hL:Own w0 wm.heap.size 5 1 dY (.slice la L.length lc) L) (hL2:∀ c∈L,c<256)
  (g1:wm.heap.size≤cb) (g2:wm.heap.size≤ub) (g3:wm.heap.size≤tb) (s t:Nat) (hs:s<A.label.length) (ht:t<B.label.length) :
  Calls Tryz.prog 39 #[.pointer (some ⟨cb,0,none⟩),.int .i64 s,.int .i64 t] w0 (ab5 wm A B L (s,t)):=by
 obtain⟨n,Xd,lbA,loA,Xe,Xf,Xg,Xh,rcA,mA⟩:=machC hA wA
 obtain⟨m,Xi,lbB,loB,Xj,Xk,Xl,Xm,rcB,mB⟩:=machC hB wB
 obtain⟨lx1,lx2,lb,lx3⟩:L.length≤lc∧lc≤9223372036854775807∧∃ lb,∀ i (hi:i<L.length),la=some ⟨lb,0,none⟩∧∀ u,bM (S3 cb ub tb) w0 u→u.cell? ⟨lb,i,none⟩=some (.int .u8 (L[i]:Nat)):=by
  obtain⟨_,_,_,hb,_⟩:=hC.box
  obtain⟨_,_,_,hu⟩:=hC.uni
  obtain⟨_,hr,_⟩:=hu.row
  exact akd hL hb hu.box hr (by decide) (by decide) (by decide)
 have nlA:=mA.nl
 have nlB:=mB.nl
 rw[nlA] at hC hs
 rw[nlB] at hC ht
 have HA:=ah hA;have HB:=ah hB;have WA:=ah wA;have WB:=ah wB;have HM:=ah hm;have HC:=ah hC;have HL2:=ah hL2;have Ii:=ah lx3;have MA:=ah mA;have MB:=ah mB
 have bnd:n+m≤131072:=by have:=mA.Ll.2;have:=mB.Ll.2;omega
 have tq:Hid (∀ u,bM (S3 cb ub tb) w0 u→Below wm.heap.size wm u):=ah fun u hu=>hu.toBelow hm (by rintro b (e | e | e) <;> omega)
 have akg:=ah (fun(w:World) (rep:Nat→Nat) (k:Nat) (W:List (Nat×Nat)) (g:Option Nat) (h:jy w cb ub tb w0.heap.size VA VB (.slice la L.length lc) n m rep k W g) (x y:Nat) (hx:x<n) (hy:y<m) (hW:W.length≤1048576)=>aix cb ub tb w0.heap.size VA VB (.slice la L.length lc) n m rep k W g w h mA.ln _ rfl mA.lc.2 x y hx hy hW)
 have uh:Hid (∀ (p:Nat×Nat),p.1<n→p.2<m→∀ c,c∈L→(fP A B p c).1<n∧(fP A B p c).2<m):=ah fun p h1 h2 c hc=>⟨mA.lt p.1 h1 _ (mA.of c (hL2 c hc)),mB.lt p.2 h2 _ (mB.of c (hL2 c hc))⟩
 have NL:=ah (And.intro nlA nlB)
 clear hA hB wA wB hm hC hL hL2 lx3 mA mB nlA nlB
 go_enter Tryz.func39,Tryz.ntmps39
 go_wp2_with fail
 refine(akg.out _ _ _ _ _ HC.out s t hs ht (by simp)).mono ?_
 rintro e w1 ⟨⟨ve,rfl⟩,O1,hR1⟩
 obtain⟨apq,k1,g1',hk1,O4,hI1,hD1⟩:=Zd (L:=L) (PA:=A) (PB:=B) hR1 hs ht
 have akh:bM (S3 cb ub tb) w0 w1:=bM.weak O1 (fun b e=>by
  rcases e with e | e | e | e
  ·exact .inl e
  ·exact .inr (.inl e)
  ·exact .inr (.inr e)
  ·cases e)
 have H1:=ah (And.intro O4 (And.intro hI1 (And.intro hD1 akh)))
 clear O1 hR1 O4 hI1 hD1 akh
 go_wp2_with fail
 go_loopw [] (fun wr=>∃ (rep:Nat→Nat) (k:Nat) (W J:List (Nat×Nat)) (g:Option Nat),jy wr cb ub tb w0.heap.size VA VB (.slice la L.length lc) n m rep k W g∧sJ A B L n m (s,t) rep J W∧ny A B L n rep J W none∧bM (S3 cb ub tb) w0 wr∧W.length+k≤n+m) (fun wr=>MK cb ub wr)
 case atStart =>
  obtain⟨a,b,c,d⟩:=H1.out
  exact⟨apq,k1,_,_,g1',a,b,c,d,by simp;omega⟩
 case round =>
  clear H1 hk1
  obtain⟨rep,k,W,J,g,hC,hI,hD,hO,hWk⟩:=hrel
  rcases VH W with rfl | ⟨W',p,rfl⟩
  ·obtain⟨a,c,_,hb,_⟩:=hC.box
   have p0:wr.cell? ⟨cb,522,none⟩=some (.slice a 0 c):=hb.EH 2
   have l0:=hb.lt
   have HQ:=ah (hI.done hD hs ht (fun p h1 h2 c hc=>uh.out p h1 h2 c hc))
   have HO:=ah hO
   clear hC hI hD hO hb
   go_wp2
   go_ret
   exact⟨true,rfl,⟨fun _=>HQ.out,fun _=>rfl⟩,tq.out _ HO.out⟩
  ·obtain⟨gb,c,rfl,e1,e2,p0,q0,q1,f0,hP⟩:=hC.pop
   have hlc:=hC.lt
   have hgb:=hC.blk gb rfl
   have hleft:=hC.left
   have l0:=World.block_lt_of_cell? _ _ p0
   have l1:=World.block_lt_of_cell? _ _ q0
   obtain⟨h1,h2,hmt⟩:=hI.ok p (hI.sub p (List.mem_append_right _ (List.mem_singleton.2 rfl)))
   have NR:=ah (And.intro hP (And.intro hI (And.intro hD (And.intro hO hmt))))
   rw[List.length_append,List.length_singleton] at hWk hleft
   obtain⟨M,hM⟩:∃ M,MK cb ub wr=M:=⟨_,rfl⟩
   have alL:=ah hM
   have HM0:Hid (M=2*k+(W'.length+1)):=ah (hM.symm.trans hleft)
   clear hM
   have HPI:=ah (hI.sub p (List.mem_append_right _ (List.mem_singleton.2 rfl)))
   clear hP hC hI hD hO hmt hleft
   obtain⟨x,y⟩:=p
   dsimp only at h1 h2 q0 q1
   obtain⟨k',hk'⟩:∃ k',W'.length=k':=⟨_,rfl⟩
   have HK:=ah hk'
   rw[hk'] at p0 q0 q1 e1
   clear hk'
   have k0:(0:Int)≤(k':Int):=by omega
   have k1:(k':Int)<(k':Int)+1:=by omega
   have k2:(k':Int)≤(c:Int):=by omega
   go_wp2_with fail
   have hP2:=NR.out.1
   rw[HK.out] at hP2
   have hP3:=hP2.later (aj _ (.cells #[.int .i64 (x:Nat),.int .i64 (y:Nat)] 79))
   have hO3:=((NR.out.2.2.2.1).set cb (.inl rfl) 522 (.slice (some ⟨gb,0,none⟩) k' k')).later (aj _ (.cells #[.int .i64 (x:Nat),.int .i64 (y:Nat)] 79))
   obtain⟨pb,hpb⟩:∃ pb,wr.heap.size=pb:=⟨_,rfl⟩
   have hB3:Box ((wr.setCell ⟨cb,522,none⟩ (.slice (some ⟨gb,0,none⟩) k' k')).alloc (.cells #[.int .i64 (x:Nat),.int .i64 (y:Nat)] 79)) pb #[.int .i64 (x:Nat),.int .i64 (y:Nat)] 79:=Box.new' (by rw[World.size_setCell,hpb]) _ _
   have HPB:Hid (w0.heap.size≤pb∧gb<pb∧w0.heap.size≤gb):=ah ⟨by have:=NR.out.2.2.2.1.size;omega,by omega,hgb.1⟩
   rw[hpb]
   clear p0 q0 q1 f0 l0 l1 hP2 hgb hpb
   generalize (wr.setCell ⟨cb,522,none⟩ (.slice (some ⟨gb,0,none⟩) k' k')).alloc (.cells #[.int .i64 (x:Nat),.int .i64 (y:Nat)] 79)=w2 at *
   have hbw:=tq.out _ hO3
   obtain⟨a2,c2,_,hb2,_⟩:=hP3.box
   refine(adY cb VA VB A B _ wm w2 HA.out HB.out WA.out WB.out hbw hb2 (x,y) (by rw[NL.out.1];exact h1) (by rw[NL.out.2];exact h2)).mono ?_
   rintro e w3 ⟨rfl,hb3⟩
   dsimp only
   have sZ:=hP3.later hb3
   have hO4:=hO3.later hb3
   have hB4:=hB3.kept hb3
   clear hP3 hO3 hB3 hb3 hbw hb2
   obtain⟨na,hna⟩:∃ na,bZ A x=na:=⟨_,rfl⟩
   obtain⟨nb',hnb⟩:∃ nb,bZ B y=nb:=⟨_,rfl⟩
   rw[hna,hnb]
   have HN:=ah (And.intro hna hnb)
   clear hna hnb
   have hlow:w3.cell? ⟨cb,520,none⟩=some (.slice la L.length lc):=by
    obtain⟨a4,c4,_,hb4,_⟩:=sZ.box
    exact hb4.EH 0
   have hcl:=World.block_lt_of_cell? _ _ hlow
   have HP4:=ah sZ;have Wn:=ah hO4;have HB4:=ah hB4
   clear sZ hO4 hB4
   by_cases he:na=nb'
   ·have e3:(na==nb')=true:=by simp[he]
    have e4:(na != nb')=false:=by simp[he]
    have HE:=ah he
    clear he
    obtain⟨len,hlen⟩:∃ len,L.length=len:=⟨_,rfl⟩
    have HLEN:=ah hlen
    rw[hlen] at hlow lx1
    clear hlen
    go_wp2_with fail
    go_loopw [60] (fun v60 wr=>∃ (i:Nat) (rep:Nat→Nat) (k:Nat) (W J:List (Nat×Nat)) (g:Option Nat),i≤len∧v60=.int .i64 i∧jy wr cb ub tb w0.heap.size VA VB (.slice la L.length lc) n m rep k W g∧sJ A B L n m (s,t) rep J W∧ny A B L n rep J W (some ((x,y),L.take i))∧bM (S3 cb ub tb) w0 wr∧W.length+k≤n+m∧2*k+W.length<M∧Box wr pb #[.int .i64 (x:Nat),.int .i64 (y:Nat)] 79∧(∀ b,g=some b→b≠pb∧w0.heap.size≤b)) (fun v60 _=>len - (intOf v60).toNat)
    case atStart =>
     obtain⟨z1,z2,z3,z4,z5⟩:=NR.out
     have z6:=HPB.out
     exact⟨0,rep,k,W',J,some gb,Nat.zero_le _,rfl,HP4.out,z2.pop,by rw[List.take_zero];exact z3.pop (by rw[HN.out.1,HN.out.2];exact HE.out),Wn.out,by omega,by have:=HM0.out;have:=HK.out;omega,HB4.out,fun b e=>by cases e;omega⟩
    case round =>
     obtain⟨i,BR,kk,W,J',g,hi,rfl,hC,hI,hD,hO,apr,hM',hB,hg⟩:=hrel
     by_cases hlt:i<len
     ·have hiL:i<L.length:=by rw[HLEN.out];exact hlt
      obtain⟨rfl,hlx⟩:=Ii.out i hiL
      have q0:=hlx wr hO
      have htk:L.take (i+1)=L.take i++[L[i]]:=List.take_succ_eq_append_getElem hiL
      have hcL:L[i]∈L:=List.getElem_mem hiL
      have hc2:=HL2.out _ hcL
      generalize L[i]=cc at *
      have ql:=World.block_lt_of_cell? _ _ q0
      have i0:(0:Int)≤(i:Int):=by omega
      have i1:(i:Int)<(len:Int):=by omega
      obtain⟨sx,sy,hsx,aki,akj⟩:∃ sx sy,fP A B (x,y) cc=(sx,sy)∧sx<n∧sy<m:=⟨_,_,rfl,uh.out (x,y) h1 h2 cc hcL⟩
      have hst:stepD A x (A.of cc)=sx∧stepD B y (B.of cc)=sy:=by
       unfold fP at hsx
       exact Prod.mk.inj hsx
      have HF:Hid (∀ v,Later wr.drew v→v.cell? ⟨pb,0,none⟩=some (.int .i64 (x:Nat))∧v.cell? ⟨pb,1,none⟩=some (.int .i64 (y:Nat))∧v.cell? ⟨cb,257,none⟩=some (.slice (some ⟨Xe,Xf,none⟩) n VA.nc)∧v.cell? ⟨cb,517,none⟩=some (.slice (some ⟨Xj,Xk,none⟩) m VB.nc)∧v.cell? ⟨cb,cc,none⟩=some (.int .u8 (A.of cc:Nat))∧v.cell? ⟨cb,260+cc,none⟩=some (.int .u8 (B.of cc:Nat)) ∧
        v.cell? ⟨Xe,Xf+x,none⟩=some (.slice (some ⟨Xg x,Xh x,none⟩) Xd (rcA x))∧v.cell? ⟨Xj,Xk+y,none⟩=some (.slice (some ⟨Xl y,Xm y,none⟩) Xi (rcB y))∧v.cell? ⟨Xg x,Xh x+A.of cc,none⟩=some (.int .i64 (sx:Nat))∧v.cell? ⟨Xl y,Xm y+B.of cc,none⟩=some (.int .i64 (sy:Nat))∧Below wr.heap.size wr v):=ah fun v hl=>by
       have hv:=dl hl
       have hbm:=tq.out _ (hO.later hv)
       have hB':=hB.kept hv
       obtain⟨a4,c4,_,hb4,_⟩:=(hC.later hv).box
       refine⟨hB'.cell 0,hB'.cell 1,?_,?_,?_,?_,MA.out.row x h1 v hbm,MB.out.row y h2 v hbm,?_,?_,hv⟩
       ·rw[hb4.cA 257 (by decide),VA.pG,MA.out.na,MA.out.nn]
       ·rw[show(517:Nat)=260+257 by rfl,hb4.cB 257 (by decide),VB.pG,MB.out.na,MB.out.nn]
       ·rw[hb4.cA cc (by omega),VA.qV cc hc2,HA.out.1]
       ·rw[hb4.cB cc (by omega),VB.qV cc hc2,HB.out.1]
       ·rw[MA.out.OZ x h1 _ (MA.out.of cc hc2) v hbm,hst.1]
       ·rw[MB.out.OZ y h2 _ (MB.out.of cc hc2) v hbm,hst.2]
      have hdA:=MA.out.of cc hc2
      have hdB:=MB.out.of cc hc2
      have hcA:=MA.out.cap x h1
      have hcB:=MB.out.cap y h2
      have hnA:=MA.out.nc
      have hnB:=MB.out.nc
      have HR:=ah (And.intro hC (And.intro hI (And.intro hD (And.intro hO (And.intro hB hg)))))
      have Ut:=ah (And.intro hsx (And.intro htk hcL))
      clear hC hI hD hO hB hg hsx hst htk hcL
      generalize A.of cc=dA at *
      generalize B.of cc=dB at *
      have c0:(cc:Int)<256:=by omega
      have x0:(x:Int)<(n:Int):=by omega
      have y0:(y:Int)<(m:Int):=by omega
      have dA0:(dA:Int)<(Xd:Int):=by omega
      have dB0:(dB:Int)<(Xi:Int):=by omega
      go_wp2_with fail
      refine aO (R:=Later) 37 (by kernel_rfl) ?_
      refine pl [0,1,2,3,4,5,6,7,8,9,10,11,12,13,14,15,16,17,18,19,20,21,22,23,24,25,26,27,28,29,30,31,32,33,34,35,36] ?_
      repeat
       refine dR ?_ rfl (fun w1 hl=>?_) ?_
       rotate_left
       ·obtain⟨b0,b1,q1,q2,q3,q4,q5,q6,q7,q8,_⟩:=HF.out w1 hl;have t0:=World.block_lt_of_cell? _ _ b0;have t1:=World.block_lt_of_cell? _ _ q1;have t2:=World.block_lt_of_cell? _ _ q5;have t3:=World.block_lt_of_cell? _ _ q6;have t4:=World.block_lt_of_cell? _ _ q7;have t5:=World.block_lt_of_cell? _ _ q8;go_simp;try with_reducible rfl
       simp only[eA,eB,eC,Act.put,eD,eE,eF]
      refine bV ?_
      refine bg (t:=37) (i:=37) (by kernel_rfl) rfl (fun w1 hl K hK=>?_)
      obtain⟨z1,z2,z3,z4,z5,z6⟩:=HR.out
      have hB1:=(HF.out w1 hl).2.2.2.2.2.2.2.2.2.2
      have O4:=z1.later hB1
      go_simp
      refine(akg.out w1 BR kk W g O4 sx sy aki akj (by omega)).mono ?_
      rintro e w9 ⟨⟨ve9,rfl⟩,Wv,hR9⟩
      refine hK.out _ _ (fun h=>absurd rfl h) ?_
      clear hK K
      have akk:=(z4.later hB1).wait Wv (fun b e=>(z6 b e).2)
      obtain⟨_,_,_,hu⟩:=z1.uni
      obtain⟨aps,k2,g2,J2,W2,hC2,hI2,hD2,hw2,hm2,hg2⟩:=ab4 (p:=(x,y)) (cs:=L.take i) (c:=cc) (PA:=A) (PB:=B) (by rw[Ut.out.1];exact hR9) z2 z3 NR.out.2.2.2.2 Ut.out.2.2 (by rw[Ut.out.1];exact aki) (by rw[Ut.out.1];exact akj) hu.uf.H9 (fun i hi=>hu.uf.Rk hi)
      have hlt0:=z1.lt
      have hpb:=HPB.out
      have dw:Box w9 pb #[.int .i64 (x:Nat),.int .i64 (y:Nat)] 79:=Wv.box (z5.kept hB1) (by
       rintro(e | e | e | e)
       ·omega
       ·omega
       ·omega
       ·exact(z6 pb e).1 rfl)
      have wo:∀ b,g2=some b→b≠pb∧w0.heap.size≤b:=fun b e=>by
       rcases hg2 with e2 | ⟨b2,e2,e3⟩
       ·exact z6 b (e2▸e)
       ·rw[e] at e2
        cases e2
        have l1:=(z5.kept hB1).lt
        omega
      have HR9:=ah (And.intro hC2 (And.intro hI2 (And.intro hD2 (And.intro akk (And.intro dw wo)))))
      have apt:W2.length+k2≤n+m:=by omega
      have apu:2*k2+W2.length<M:=by omega
      clear z1 z2 z3 z4 z5 z6 hu hC2 hI2 hD2 akk dw wo Wv hR9 hB1 O4 hl HF HR hg2 hlt0 hpb
      refine aV (by kernel_rfl) (fun w1 hl=>?_) _
      obtain⟨z1,z2,z3,z4,z5,z6⟩:=HR9.out
      have Z1:=ah (z1.later hl);have Z4:=ah (z4.later hl);have Z5:=ah (z5.kept hl)
      clear z1 z2 z3 z4 z5 z6 hl
      go_wp2
      go_roundw
      case rel=>exact⟨i+1,aps,k2,W2,J2,g2,hlt,by go_num,Z1.out,HR9.out.2.1,by rw[Ut.out.2.1];exact HR9.out.2.2.1,Z4.out,apt,apu,Z5.out,HR9.out.2.2.2.2.2⟩
      case measure=>simp[intOf];omega
     ·obtain rfl:i=len:=by omega
      rw[List.take_of_length_le (by rw[HLEN.out];exact Nat.le_refl _)] at hD
      have HR:=ah (And.intro hC (And.intro hI (And.intro hD hO)))
      clear hC hI hD hO hB hg
      go_wp2
      go_roundw
      case rel =>
       obtain⟨z1,z2,z3,z4⟩:=HR.out
       exact⟨BR,kk,W,J',g,z1,z2,z3.full,z4,apr⟩
      case measure=>rw[HR.out.1.left,alL.out];exact hM'
   ·have e3:(na==nb')=false:=by simp[he]
    have e4:(na != nb')=true:=by simp[he]
    have HE:=ah he
    clear he
    go_wp2_with fail
    go_ret
    exact⟨false,rfl,⟨(fun h=>by cases h),fun h=>absurd (by rw[←HN.out.1,←HN.out.2];exact h (x,y) NR.out.2.2.2.2) HE.out⟩,tq.out _ Wn.out⟩
end
end Go.Proofs.YtengfapcaaacaaaGreatDoor
