/- The texts of Q2, in few letters (mini.py). -/
import Derived.Test.YtbemonecmmnlcaaGreatDoorR1
import Derived.Test.YtbemonecmmnlcaaGreatDoorM29
import Derived.Test.YtbemonecmmnlcaaGreatDoorM1
set_option linter.unusedVariables false
set_option linter.unusedSimpArgs false
set_option maxRecDepth 20000
set_option maxHeartbeats 3200000
namespace Go.Proofs.YtbemonecmmnlcaaGreatDoor
section
open Go.RowKit
def abW(D:aF)(live:Nat→Bool):Nat→Nat→Int×Nat→List UInt8→Int×Nat
 | _,_,last,[]=>last
 | s,pos,last,b::w =>
  let last':=if labS D (mV D s b)=0 then last else (labS D (mV D s b),pos+1)
  if live (mV D s b)=true then abW D live (mV D s b) (pos+1) last' w else last'
theorem acD{D:aF}{live:Nat→Bool}(hl:∀ s,live s=false→yT D s):∀ (w:List UInt8) (s pos:Nat) (last:Int×Nat),abW D live s pos last w=match dZ D s w with | some r=>(r.1,pos+r.2) | none=>last
 | [],_,_,_=>rfl
 | b::w,s,pos,last=>by
  rw[abW,dZ]
  cases hv:live (mV D s b) with
  | false =>
   rw[IL w (hl _ hv)]
   dsimp only
   by_cases h:labS D (mV D s b)=0
   ·rw[if_neg (by simp),if_pos h,if_pos h]
   ·rw[if_neg (by simp),if_neg h,if_neg h]
  | true =>
   rw[if_pos rfl,acD hl w]
   cases hb:dZ D (mV D s b) w with
   | some r=>dsimp only;rw[show pos+1+r.2=pos+(r.2+1) by omega]
   | none =>
    dsimp only
    by_cases h:labS D (mV D s b)=0
    ·rw[if_pos h,if_pos h]
    ·rw[if_neg h,if_neg h]
end
section
open Go.ChangeShapes Go.WideShapes Go.ChangeAt Go.RowKit Go.Deep
def aeV:Value:=.agg (Array.replicate 256 (.int .u8 0)++#[.int .i64 0,.slice none 0 0,.slice none 0 0,.slice none 0 0])
theorem ahM(s:ByteArray):Value.string s=sv s.data.toList:=by
 unfold sv;cases s;rfl
theorem abB{α:Type}[Inhabited α]{n:Nat}{Q:Nat→α→Prop}(h:∀ i,i<n→∃ x,Q i x):∃ f:Nat→α,∀ i,i<n→Q i (f i) :=
 ⟨fun i=>if hi:i<n then (h i hi).choose else default,fun i hi=>by simp only[hi,dif_pos];exact(h i hi).choose_spec⟩
theorem aht:∃ fs,alb Tryz.prog 27 22 5 3 23 24 25 9 fs :=
 ⟨_,Tryz.underlying27,by kernel_rfl,Tryz.underlying22,Tryz.underlying5,Tryz.underlying3,Tryz.underlying23,Tryz.underlying24,Tryz.underlying25,Tryz.underlying9,
  by kernel_rfl,by kernel_rfl,by kernel_rfl,by kernel_rfl,by kernel_rfl,by kernel_rfl,by kernel_rfl,by kernel_rfl⟩
section
variable {H:Type} {enc:TypeId×Value→H} {P:Program} {w:World} {base:Nat} {spare:Nat→Bool} {held:Bool}
theorem abr{α:Type}[Inhabited α]{f:α→Value}{Ok:α→Prop}{t e:TypeId}(hs:P.underlying t=some (.slice e))(hc:P.cellsOf e=1)(fuel:Nat)
  (ih:∀ m c x,DataW.trod enc P w base spare held m e [c]=some x→∃ y:α,c=f y∧Ok y)
  {c:Value} {x:DataW H×List MemPlace} (h:DataW.trod enc P w base spare held fuel t [c]=some x) :
  ∃ (a:Option Addr) (cap:Nat) (l:List α),c=.slice a l.length cap∧ak w (.slice a l.length cap) 1 (fun x=>[f x]) l∧∀ i (h:i<l.length),Ok l[i]:=by
 rcases DataW.trod_slice hs h with⟨h0,_⟩ | ⟨a',len,cap,elems,rest,n,hf,h0,_,_,hle,hm,_,hel,_⟩
 ·simp at h0
  exact⟨none,0,[],h0,⟨none,0,0,0,rfl,Nat.le_refl _,by simp[maxLen],.inr ⟨rfl,fun _=>rfl⟩,fun i hi=>by simp at hi⟩,fun i hi=>by simp at hi⟩
 ·simp at h0
  subst h0
  have key:∀ i,i<len→∃ y:α,w.cell? (a'.add i)=some (f y)∧Ok y:=fun i hi=>by
   have h1:=hel i hi
   rw[hc,Nat.mul_one,List.getElem?_eq_getElem (show i<elems.length by omega)] at h1
   obtain⟨cs',h2,h3⟩:=Option.bind_eq_some_iff.1 h1
   obtain⟨h5,_,h4⟩:=World.cells?_some h2
   match cs',h5,h3,h4 with
   | [c],_,h3,h4 =>
    obtain⟨y,rfl,hy⟩:=ih n _ _ h3
    refine⟨y,?_,hy⟩
    have:=h4 0 (by simp)
    simpa [Addr.add] using this
  obtain⟨g,hg⟩:=abB key
  have hspot:0<len→a'.spot=none:=fun h0=>by
   have:=World.cell?_spot (hg 0 h0).1
   simpa [Addr.add] using this
  obtain⟨b,o,spot⟩:=a'
  refine⟨some ⟨b,o,spot⟩,cap,(List.range len).map g,by simp,⟨some ⟨b,o,spot⟩,b,o,cap,by simp,by simpa using hle,hm,?_,fun i hi j u hu=>?_⟩,fun i hi=>?_⟩
  ·by_cases h0:len=0
   ·exact .inr ⟨by simp[h0],fun h=>by cases h⟩
   ·have h1:=hspot (by omega)
    simp only at h1
    exact .inl (by rw[h1])
  ·have hi':i<len:=by simpa using hi
   have:=(hg i hi').1
   have hs2:spot=none:=hspot (by omega)
   subst hs2
   rw[Addr.add_mid] at this
   have hj:j=0:=by have:=(List.getElem?_eq_some_iff.1 hu).1;simpa using this
   subst hj
   simp at hu
   rw[←hu,Nat.mul_one,Nat.add_zero];exact this
  ·have hi':i<len:=by simpa using hi
   simpa using (hg i hi').2
theorem afF{tD tA tU tI tN tL tM tS:TypeId}{fs:Array Field}(N:alb P tD tA tU tI tN tL tM tS fs){fuel:Nat}{cs:List Value}{x:DataW H×List MemPlace}(h:DataW.trod enc P w base spare held fuel tD cs=some x) :
  ∃ (V:au) (D:aF),cs=V.cells.toList∧kJ w V D∧(∀ b,V.of b<256)∧(∀ x∈D.names,x.length≤9223372036854775807)∧(Lit.int .i64 D.width).wf=true∧(∀ x∈D.label,(Lit.int .i64 x).wf=true)∧∀ r∈D.next,∀ x∈r,(Lit.int .i64 x).wf=true:=by
 obtain⟨xs,n,hfu,_,hl,hxl,hf⟩:=DataW.trod_struct N.rG h
 rw[N.cD] at hl
 have fl:=N.aiP
 obtain⟨f0,f1,f2,f3,f4,rfl⟩:∃ a b c d e,fs=#[a,b,c,d,e]:=by
  obtain⟨l⟩:=fs
  have:l.length=5:=by have:=congrArg Array.size fl;simpa using this
  match l,this with
  | [a,b,c,d,e],_=>exact⟨a,b,c,d,e,rfl⟩
 simp only[List.map_toArray,List.map_cons,List.map_nil,Array.mk.injEq,List.cons.injEq,Prod.mk.injEq,and_true] at fl
 obtain⟨⟨t0,o0⟩,⟨t1,o1⟩,⟨t2,o2⟩,⟨t3,o3⟩,⟨t4,o4⟩⟩:=fl
 have e0:=hf 0 f0 rfl;have e1:=hf 1 f1 rfl;have e2:=hf 2 f2 rfl;have e3:=hf 3 f3 rfl;have e4:=hf 4 f4 rfl
 rw[t0,o0,N.cA] at e0;rw[t1,o1,N.cI] at e1;rw[t2,o2,N.cN] at e2;rw[t3,o3,N.cL] at e3;rw[t4,o4,N.cM] at e4
 simp only[List.size_toArray,List.length_cons,List.length_nil] at hxl
 rw[List.getElem?_eq_getElem (by omega)] at e0 e1 e2 e3 e4
 have one:∀ k,k<260→(cs.drop k).take 1=[cs.getD k default]:=fun k hk=>by
  rw[List.drop_eq_getElem_cons (by omega),List.take_succ_cons,List.take_zero]
  simp[List.getD,List.getElem?_eq_getElem (show k<cs.length by omega)]
 rw[one 256 (by decide)] at e1;rw[one 257 (by decide)] at e2;rw[one 258 (by decide)] at e3;rw[one 259 (by decide)] at e4
 rw[List.drop_zero] at e0
 obtain⟨of,c0,hof⟩:=afn N.arr N.u8 N.cU N.cA e0
 obtain⟨wd,c1,_,hwd⟩:=DataW.trod_int N.int e1
 have ints:∀ m c x,DataW.trod enc P w base spare held m tI [c]=some x→∃ y:Int,c=.int .i64 y∧(Lit.int .i64 y).wf=true:=fun m c x h=>by
  obtain⟨z,h1,_,h2⟩:=DataW.trod_int N.int h
  simp at h1
  exact⟨z,h1,h2⟩
 have rows:∀ m c x,DataW.trod enc P w base spare held m tL [c]=some x→∃ y:Value,c=y∧∃ (r:List Int) (a:Option Addr) (cap:Nat),y=.slice a r.length cap∧ak w (.slice a r.length cap) 1 encI r∧∀ x∈r,(Lit.int .i64 x).wf=true:=fun m c x h=>by
  obtain⟨a,cap,l,h1,h2,h3⟩:=abr (f:=Value.int .i64) N.ints N.cI m ints h
  exact⟨c,rfl,l,a,cap,h1,h2,fun x hx=>by obtain⟨i,hi,rfl⟩:=List.getElem_of_mem hx;exact h3 i hi⟩
 have strs:∀ m c x,DataW.trod enc P w base spare held m tS [c]=some x→∃ y:List UInt8,c=sv y∧y.length≤9223372036854775807:=fun m c x h=>by
  obtain⟨s,h1,_,h2⟩:=DataW.trod_string N.str h
  simp at h1
  refine⟨s.data.toList,by rw[h1,ahM],?_⟩
  rw[Array.length_toList];exact h2
 obtain⟨na,nc,ab1,c2,n1,n2⟩:=abr (f:=id) N.rows N.cL _ rows e2
 obtain⟨la,lc,lab,c3,l1,l2⟩:=abr (f:=Value.int .i64) N.ints N.cI _ ints e3
 obtain⟨ma,mc,nms,c4,m1,m2⟩:=abr (f:=sv) N.strs N.cS _ strs e4
 obtain⟨g,hg⟩:=abB (n:=ab1.length) (Q:=fun i (r:List Int)=>∃ (a:Option Addr) (cap:Nat),ab1.getD i default=.slice a r.length cap∧ak w (.slice a r.length cap) 1 encI r∧∀ x∈r,(Lit.int .i64 x).wf=true) (fun i hi=>by
  obtain⟨r,a,cap,h1,h2⟩:=n2 i hi
  exact⟨r,a,cap,by simpa [List.getD,List.getElem?_eq_getElem hi] using h1,h2⟩)
 refine⟨⟨of,wd,na,ab1.length,nc,la,lab.length,lc,ma,nms.length,mc⟩,⟨of,wd,(List.range ab1.length).map g,lab,nms⟩,?_,⟨rfl,rfl,l1,m1,ab1,n1,by simp,fun i h1 h2=>?_⟩,hof,fun x hx=>?_,hwd,fun x hx=>?_,fun r hr=>?_⟩
 ·have:cs=cs.take 256++[cs.getD 256 default,cs.getD 257 default,cs.getD 258 default,cs.getD 259 default]:=by
   conv=>lhs;rw[←List.take_append_drop 256 cs]
   congr 1
   apply List.ext_getElem?
   intro i
   rw[List.getElem?_drop]
   match i with
   | 0=>simp[List.getD,List.getElem?_eq_getElem (show 256<cs.length by omega)]
   | 1=>simp[List.getD,List.getElem?_eq_getElem (show 257<cs.length by omega)]
   | 2=>simp[List.getD,List.getElem?_eq_getElem (show 258<cs.length by omega)]
   | 3=>simp[List.getD,List.getElem?_eq_getElem (show 259<cs.length by omega)]
   | i+4=>rw[List.getElem?_eq_none (by omega)];simp
  simp only[List.cons.injEq,and_true] at c1
  rw[this,c0,c1,c2,c3,c4]
  simp[au.cells]
 ·obtain⟨a,cap,h3,h4,_⟩:=hg i h1
  rw[List.getD,List.getElem?_eq_getElem h1] at h3
  refine⟨a,cap,?_,?_⟩
  ·simpa using h3
  ·simpa using h4
 ·obtain⟨i,hi,rfl⟩:=List.getElem_of_mem hx;exact m2 i hi
 ·obtain⟨i,hi,rfl⟩:=List.getElem_of_mem hx;exact l2 i hi
 ·obtain⟨i,hi,rfl⟩:=List.mem_map.1 hr
  obtain⟨_,_,_,_,h⟩:=hg i (by simpa using hi)
  exact h
end
end
section
open Go.ChangeShapes Go.WideShapes Go.ChangeAt Go.RowKit Go.Deep
section
variable {H:Type} {enc:TypeId×Value→H} {P:Program} {w:World} {base:Nat} {spare:Nat→Bool} {held:Bool}
theorem aeE{t e:TypeId}{fuel:Nat}{a:Option Addr}{len cap R:Nat}{x:DataW H×List MemPlace}(hs:P.underlying t=some (.slice e))(h:DataW.trod enc P w base spare held fuel t [.slice a len cap]=some x)
  (hw:(DataW.weights P t x.1).all (·≤R)=true):len*P.bytesOf e≤R:=by
 rcases DataW.trod_slice hs h with⟨h0,_⟩ | ⟨a',len',cap',elems,rest,n,hf,h0,hx,_,hle,hm,ah3,hel,_⟩
 ·simp at h0
  rw[h0.2.1,Nat.zero_mul];exact Nat.zero_le _
 ·simp at h0
  obtain⟨rfl,rfl,rfl⟩:=h0
  rw[hx] at hw
  simp only[DataW.weights,hs,List.all_cons,Bool.and_eq_true,decide_eq_true_eq,List.length_map] at hw
  exact Nat.le_trans (Nat.mul_le_mul_right _ (by omega)) hw.1
structure aie(P:Program)(tT tI:TypeId)(fs:Array Field):Prop where
 tok:P.underlying tT=some (.struct fs)
 aiP:fs.map (fun f=>(f.type,f.offset))=#[(tI,0),(tI,1),(tI,2)]
 int:P.underlying tI=some (.int .i64)
 cT:P.cellsOf tT=3
 cI:P.cellsOf tI=1
end
end
section
open Go.RowKit
theorem afP(D:aF)(s:Nat)(b:UInt8):mV D s b=stepD D s (D.of b.toNat):=rfl
end
section
open Go.RowKit
theorem afV{α:Type}{enc:α→List Value}{size:Nat}{P:Program}{o:Oper}{a:Act}{w:World}{K:Act→World→Prop}{Q:Exit→Act→World→Prop}(t:TypeId)(x y:Operand)(ho:o.op=.makeSlice t x y)
  {E:TypeId} {z:Value} {bytes:Nat} (hE:dQ P t E z size bytes) (he:eH enc size) (x0:α) (hz:z.cells.toList=enc x0) (n:Nat) (hx:a.eval x=.int .i64 n) (hy:a.eval y=.int .i64 n) (hbytes:bytes*n≤281474976710656) (h63:n≤maxLen) (base:Nat) (hb:base≤w.heap.size)
  (h:∀ w1,Own w1 base E size enc (.slice (some ⟨w.heap.size,0,none⟩) n n) (List.replicate n x0)→w1=w.alloc (.cells (madeCells z.cells (n*size)) E)→K (a.put o.dst (.slice (some ⟨w.heap.size,0,none⟩) n n)) w1):Oper.wp P o a w K Q:=by
 obtain⟨i,hi,hiz,his,hib⟩:=hE.info
 subst hib
 subst his
 have h63':(n:Int)≤9223372036854775807:=by have:=h63;simp[maxLen] at this;omega
 have hb':(i.bytes:Int)*(n:Int)≤281474976710656:=by
  have:((i.bytes*n:Nat):Int)≤281474976710656:=by omega
  rwa[Int.natCast_mul] at this
 have hr:=run_make (P:=P) w t E i z hE.slice hi hiz .i64 .i64 n n (Int.natCast_nonneg _) (Int.le_refl _) hb' h63'
 simp only[Int.toNat_natCast] at hr
 unfold Oper.wp execOp
 simp only[ho,hx,hy,Sem.run_bind,Sem.run_pure,Result.andThen_ok,hr,Oper.upon]
 exact h _ (Own.made he w base E x0 z.cells hz hE.pos n h63 hb) rfl
theorem aeH(V:au)(lv:Value):(af9 V lv).size=261:=by unfold af9;rw[Array.size_append,au.size];rfl
theorem abw(V:au)(lv:Value)(i:Nat)(h:i<260):(af9 V lv)[i]?=V.cells[i]?:=by
 unfold af9
 rw[Array.getElem?_append_left (by rw[au.size];exact h)]
theorem abA(V:au)(lv:Value):(af9 V lv)[260]?=some lv:=by
 unfold af9
 rw[Array.getElem?_append_right (by rw[au.size];exact Nat.le_refl _),au.size];rfl
theorem adS(V:au)(a:Option Addr)(n c:Nat):Tryz.prog.built 199 [(0,.agg V.cells),(1,.slice a n c)]=some (af9 V (.slice a n c)):=by
 obtain⟨it,hi⟩:∃ it,Tryz.prog.info? 199=some it:=Option.isSome_iff_exists.1 (by kernel_rfl)
 have hz0:(Tryz.prog.info? 199).map (fun it=>it.zero.map (·.cells.size))=some (some 261):=by kernel_rfl
 rw[hi] at hz0
 simp only[Option.map_some,Option.some.injEq] at hz0
 obtain⟨z,hz,hzs⟩:=Option.map_eq_some_iff.1 hz0
 rw[Em (places:=[(0,260),(260,1)]) _ hi Tryz.underlying199 hz (by kernel_rfl)]
 have e1:(Value.agg V.cells).cells=V.cells:=rfl
 have e2:(Value.slice a n c).cells=#[Value.slice a n c]:=rfl
 have hs:=au.size V
 have P9:=tX 0 V.cells.toList 0 z.cells
 have hgg:=fun i=>BQ 0 V.cells.toList 0 z.cells i (by rw[Array.length_toList];omega)
 rw[←BR] at P9
 simp only[←BR] at hgg
 generalize hF:V.cells.zipIdx.foldl (fun cs (x:Value×Nat)=>cs.setIfInBounds (0+x.2) x.1) z.cells=F at *
 have h0:Instr.fill (([(0,260),(260,1)]:List (Nat×Nat)).toArray[·]?) z.cells [(0,.agg V.cells),(1,.slice a n c)]=Instr.fill (([(0,260),(260,1)]:List (Nat×Nat)).toArray[·]?) F [(1,.slice a n c)]:=by
  rw[←hF]
  show(if (V.cells.size≠260||0+V.cells.size > z.cells.size)=true then none else _)=_
  rw[hs,hzs,if_neg (by decide)]
  rfl
 have h1:Instr.fill (([(0,260),(260,1)]:List (Nat×Nat)).toArray[·]?) F [(1,.slice a n c)]=some (F.setIfInBounds 260 (.slice a n c)):=by
  show(if ((1:Nat)≠1||260+1 > F.size)=true then none else _)=_
  rw[P9,hzs,if_neg (by decide)]
  rfl
 refine h0.trans (h1.trans (congrArg some (Array.ext_getElem? fun i=>?_)))
 rw[Array.getElem?_setIfInBounds,P9,hzs]
 by_cases hi2:260=i
 ·subst hi2;rw[if_pos rfl,if_pos (by decide),abA]
 ·rw[if_neg hi2,hgg i,Array.length_toList,hs]
  by_cases hi3:i<260
  ·rw[if_pos (by omega),abw _ _ _ hi3,Array.getElem?_toList];rfl
  ·rw[if_neg (by omega),Array.getElem?_eq_none (by omega),Array.getElem?_eq_none (by rw[aeH];omega)]
def ahu(w:World)(V:au)(n:Nat)(ws:List Nat)(e:Ending)(w':World):Prop :=
 ∃ cb vb,e=.returned (.pointer (some ⟨cb,0,none⟩))∧En w' w.heap.size cb vb V n ws∧Below w.heap.size w w'
theorem adT(V:au)(D:aF)(w:World)(h:kJ w V D)(hl:∀ x∈D.names,x.length≤9223372036854775807)(hr:o9 D=true):Calls Tryz.prog 90 #[.agg V.cells] w (ahu w V D.label.length (oD D)):=by
 have hw:=OW hr
 obtain⟨n,wd,lb,lo,nb,no,rb,ro,rc,hm⟩:=machC h hw
 have hbx:=Box.new w V.cells 27
 have hB0:=aj w (.cells V.cells 27)
 have Ej:=ah (fun u hu=>aaL V D u (h.kept hu) hl hr)
 obtain⟨hn1,hn2⟩:=hm.Lm
 have hlen:(oD D).length≤n:=by
  unfold oD
  rw[kM,←hm.nl]
  exact nodup_lt_length _ _ (BK hw).1 (BK hw).2
 have hlt:∀ x∈oD D,x<n:=fun x hx=>by rw[←hm.nl];exact((L6 hw x).1 hx).1
 have hnl:=hm.nl
 have hln:=hm.ln
 have hla:=hm.la
 rw[hnl]
 generalize oD D=L at *
 have XC:=ah hlt;have HB0:=ah hB0
 have hst:Below w.heap.size w (w.alloc (.cells V.cells 27)).drew:=hB0.trans ((Below.refl _ _).drew.mono hB0.size)
 have HF:Hid (∀ u,Later (w.alloc (.cells V.cells 27)).drew u→Box u w.heap.size V.cells 27∧Below w.heap.size w u):=ah fun u hu=>⟨(hbx.kept ((Below.refl _ _).drew)).kept hu,hst.trans (hu.mono hst.size)⟩
 clear h hl hr hm hlt hbx hw hnl
 go_enter Tryz.func90,Tryz.ntmps90
 go_wp2_with fail
 refine aW (R:=Later) 8 (by kernel_rfl) ?_
 refine FZ (t:=8) (i:=0) rfl (by kernel_rfl) (by kernel_rfl) (by kernel_rfl) (by kernel_rfl) (fun _ _ _ h=>h) (by rfl) (fun w1 hl=>oV 27 _ rfl _ rfl ((HF.out w1 hl).1) Tryz.underlying27 rfl (bU V)) ?_
 simp only[eA,eB,Act.put,eD,eE,eF]
 refine pl [1,2,3] ?_
 repeat
  refine jW ?_ rfl (fun w1 hl=>?_) ?_
  rotate_left
  ·have hx:=(HF.out w1 hl).1;have x2:w1.cell? ⟨w.heap.size,258,none⟩=some (.slice (some ⟨lb,lo,none⟩) n V.lc):=by { have:=hx.rG.2.2.1;rwa[hln,hla] at this };go_simp;try with_reducible rfl
  simp only[eA,eB,eC,Act.put,eD,eE,eF]
 refine eX ?_
 refine aQ (t:=8) (i:=4) (by kernel_rfl) rfl (fun w1 hl K hK=>?_)
 refine eP (by rfl) ?_
 refine afV 119 _ _ rfl Lr OZ false rfl n rfl rfl (by omega) (by simp only[maxLen];omega) w1.heap.size (Nat.le_refl _) ?_
 intro w2 hm2 hw2
 have adZ:Below w1.heap.size w1 w2:=by rw[hw2];exact aj _ _
 refine hK.out _ _ (fun _=>adZ) ?_
 clear hK K
 simp only[List.getElem_toArray,List.getElem_cons_zero,List.getElem_cons_succ,Act.put,List.setIfInBounds_toArray,List.set_cons_zero,List.set_cons_succ]
 obtain⟨hX1,hB1⟩:=HF.out w1 hl
 obtain⟨vb,hvb⟩:∃ vb,w1.heap.size=vb:=⟨_,rfl⟩
 have hs2:w2.heap.size=vb+1:=by rw[hw2,World.size_alloc,hvb]
 have hl2:Below w1.heap.size w1 w2:=adZ
 have hX2:=hX1.kept adZ
 have hB2:=hB1.trans (adZ.mono hB1.size)
 rw[hvb] at hm2 ⊢
 have hvw:w.heap.size≤vb:=by rw[←hvb];exact hB1.size
 clear hw2 hvb hX1 hB1 adZ hl hl2
 rw[←O1] at hm2
 refine kP 5 (.agg (af9 V (.slice (some ⟨vb,0,none⟩) n n))) rfl (fun w1 hl=>?_) ?_
 ·exact tV rfl (by rfl) (adS V (some ⟨vb,0,none⟩) n n)
 simp only[List.getElem_toArray,List.getElem_cons_zero,List.getElem_cons_succ,Act.put,List.setIfInBounds_toArray,List.set_cons_zero,List.set_cons_succ]
 refine aQ (t:=8) (i:=6) (by kernel_rfl) rfl (fun w1 hl K hK=>?_)
 have dV:=hX2.kept hl
 have hB3:=hB2.trans (hl.mono hB2.size)
 have IE:=hm2.kept hl
 have hs3:=hl.size
 clear hl hX2 hB2 hm2
 go_simp
 refine hK.out _ _ (fun _=>aj _ _) ?_
 clear hK K
 have hcb:=Box.new w1 (af9 V (.slice (some ⟨vb,0,none⟩) n n)) 199
 have hb4:=aj w1 (.cells (af9 V (.slice (some ⟨vb,0,none⟩) n n)) 199)
 obtain⟨cb,afY⟩:∃ cb,w1.heap.size=cb:=⟨_,rfl⟩
 have hcu:En (w1.alloc (.cells (af9 V (.slice (some ⟨vb,0,none⟩) n n)) 199)) w.heap.size cb vb V n []:=⟨afY▸hcb,(IE.kept hb4).mono hvw,by omega⟩
 have fU:=dV.kept hb4
 have hB4:=hB3.trans (hb4.mono hB3.size)
 rw[afY]
 clear hcb hb4 afY dV hB3 IE
 generalize (w1.alloc (.cells (af9 V (.slice (some ⟨vb,0,none⟩) n n)) 199))=w4 at *
 refine kP 7 ?_ rfl (fun w1 hl=>?_) ?_
 rotate_left
 ·skip;go_simp;try with_reducible rfl
 simp only[eA,eB,eC,Act.put,eD,eE,eF]
 refine bC (by kernel_rfl) (fun w1 hl=>?_) _
 have ah4:=hcu.kept hl
 have Ai:=fU.kept hl
 have dw:=hB4.trans (hl.mono hB4.size)
 clear hcu fU hB4 hl HF
 have HCU:=ah ah4;have qR:=ah dw
 go_wp2_with (first | (refine dL (by rfl) 27 _ rfl w.heap.size rfl _ _ _ _ Ai Tryz.underlying27 rfl (bU _) ?_) | (go_at_call 82;go_must (refine(Ej.out _ qR.out).mono ?_;rintro e w6 ⟨la6,lc6,rfl,wI,hb6⟩)))
 have ahv:=HCU.out.kept hb6
 have lH:=qR.out.trans (hb6.mono qR.out.size)
 have hvl:=HCU.out.live.blk (g:=vb) rfl
 obtain⟨_,hlc,aam,g,hga,hgx⟩:=wI.IX
 have agR:∀ k,k<L.length→g≠vb:=fun k hk e=>by
  have h1:=wI.blk (g:=g) (by rw[(hga k hk).1];rfl)
  omega
 have HC6:=ah ahv;have Lu:=ah lH;have D8:=ah hga;have Sl:=ah hgx;have XQ:=ah agR
 obtain⟨m,hm⟩:∃ m,L.length=m:=⟨_,rfl⟩
 have HLEN:=ah hm
 rw[hm] at hlc hlen
 simp only[hm]
 clear ahv lH hga hgx agR hm wI Ai hb6 HCU qR
 go_wp2
 go_loopw [16] (fun i wr=>∃ k:Nat,k≤m∧i=.int .i64 k∧En wr w.heap.size cb vb V n (L.take k)∧Below w.heap.size w wr∧∀ b,b≠vb→wr.heap[b]?=w6.heap[b]?) (fun i _=>m - (intOf i).toNat)
 case atStart=>exact⟨0,Nat.zero_le _,rfl,by rw[List.take_zero];exact HC6.out,Lu.out,fun _ _=>rfl⟩
 case round =>
  obtain⟨k,hk,rfl,hC,hB,hk6⟩:=hrel
  by_cases hlt:k<m
  ·have hlk:k<L.length:=by rw[HLEN.out];exact hlt
   obtain⟨rfl,hgl⟩:=D8.out k hlk
   have c0:=Sl.out wr k hlk (hk6 g (XQ.out k hlk))
   have hsn:=XC.out _ (List.getElem_mem hlk)
   have htk:L.take (k+1)=L.take k++[L[k]]:=List.take_succ_eq_append_getElem hlk
   generalize L[k]=s at *
   have hcbl:=World.block_lt_of_cell? wr _ c0
   have hsl:=nU n (L.take k)
   obtain⟨g1,g2,g3,g4⟩:=hC.live.cellAt (i:=s) (j:=0) (by rw[hsl];exact hsn) (by decide)
   rw[show s*1+0=s by omega] at g1 g2
   have g1':wr.cell? ⟨vb,s,none⟩=some (.bool ((pq n (L.take k))[s]'(by rw[hsl];exact hsn))):=by rw[g1];rfl
   have hlive:wr.cell? ⟨cb,260,none⟩=some (.slice (some ⟨vb,0,none⟩) n n):=(hC.box.cell 260).trans (abA _ _)
   have hcl:=hC.box.lt
   have hC2:=hC.mark hsn
   rw[←htk] at hC2
   have hB2:Below w.heap.size w (wr.setCell ⟨vb,s,none⟩ (.bool true)):=hB.setCell (by simpa using hC.live.blk (g:=vb) rfl |>.1) _
   have HC2:=ah hC2;have HB2:=ah hB2;have Xr:=ah hk6
   have hki:(k:Int)<(m:Int):=by omega
   have hk0:(0:Int)≤(k:Int):=by omega
   have hsi:(s:Int)<(n:Int):=by omega
   have hs0:(0:Int)≤(s:Int):=by omega
   clear hC hB hk6 htk hC2 hB2 g1
   go_wp2
   exact⟨⟨k+1,hlt,by push_cast;rfl,HC2.out,HB2.out,fun b hb=>(heap_setCell_other _ _ _ _ hb).trans (Xr.out b hb)⟩,by simp[intOf];omega⟩
  ·obtain rfl:k=m:=by omega
   rw[←HLEN.out,List.take_length] at hC
   have HC2:=ah hC;have HB2:=ah hB
   clear hC hB hk6
   go_wp2
   go_ret
   exact⟨cb,vb,rfl,HC2.out,HB2.out⟩
end
section
open Go.RowKit
theorem af5{D:aF}(hw:kK D)(t:List UInt8)(at_:Nat):abW D (gV D) 0 at_ (0,at_) (t.drop at_)=(qC D t at_).getD (0,at_):=by
 rw[acD (Js hw)]
 unfold qC
 cases dZ D 0 (t.drop at_) <;> rfl
theorem ahp(cb pc pl:Nat)(V:au)(D:aF)(lv:Value)(n wd lb lo nb no:Nat)(rb ro rc:Nat→Nat)(w0 w:World)(hM:yV w0 V D n wd lb lo nb no rb ro rc)(hB:Below w0.heap.size w0 w)(hb:Box w cb (af9 V lv) 199)(hp:Box w pc #[.pointer (some ⟨cb,0,none⟩)] 129)
  (k:Int) (a b s e:Nat) (hs:s<n) (hl:Box w pl (Kw k a b) 61) :
  Calls Tryz.prog 131 #[.int .i64 s,.int .i64 e,.pointer (some ⟨pc,0,none⟩),.pointer (some ⟨pl,0,none⟩)] w fun r w'=>(∃ v,r=.returned v)∧Box w' pl (if labS D s=0 then Kw k a b else Kw (labS D s) a e) 61∧w'.heap.size=w.heap.size∧(∀ i,i≠pl→w'.heap[i]?=w.heap[i]?)∧w'.os=w.os∧w'.tape=w.tape∧w'.output=w.output:=by
 have c0:w.cell? ⟨pc,0,none⟩=some (.pointer (some ⟨cb,0,none⟩)):=hp.cell 0
 have c1:w.cell? ⟨cb,258,none⟩=some (.slice (some ⟨lb,lo,none⟩) n V.lc):=by
  rw[hb.cell,abw _ _ _ (by decide),V.kX,hM.la,hM.ln]
 have c2:=hM.lab s hs w hB
 obtain⟨l1,l2⟩:=hM.lc
 have e0:=hp.lt
 have e1:=hb.lt
 have e2:=World.block_lt_of_cell? w _ c2
 have hsi:(s:Int)<(n:Int):=by omega
 have hs0:(0:Int)≤(s:Int):=by omega
 have d0:w.cell? ⟨pl,0,none⟩=some (.int .i64 k):=hl.cell 0
 have d2:w.cell? ⟨pl,2,none⟩=some (.int .i64 b):=hl.cell 2
 have f0:=hl.free 0
 have f2:=hl.free 2
 have e3:=hl.lt
 have HL:=ah hl
 clear hM hB hb hp hl
 generalize labS D s=x at *
 by_cases hx:x=0
 ·have hz:(x != 0)=false:=by simp[hx]
  rw[if_pos hx]
  go_enter Tryz.func131,Tryz.ntmps131
  go_wp2
  go_end0
  exact⟨⟨_,rfl⟩,HL.out,rfl,fun _ _=>rfl,rfl,rfl,rfl⟩
 ·have hz:(x != 0)=true:=by simp[hx]
  rw[if_neg hx]
  have h2:=(HL.out.set 0 (.int .i64 x)).set 2 (.int .i64 (e:Nat))
  have H2:=ah h2
  have d2':(w.setCell ⟨pl,0,none⟩ (.int .i64 x)).cell? ⟨pl,2,none⟩=some (.int .i64 b):=(HL.out.set 0 (.int .i64 x)).cell 2
  have f2':(w.setCell ⟨pl,0,none⟩ (.int .i64 x)).frozen? ⟨pl,2,none⟩=false:=(HL.out.set 0 (.int .i64 x)).free 2
  clear h2
  go_enter Tryz.func131,Tryz.ntmps131
  go_wp2
  go_end0
  exact⟨⟨_,rfl⟩,H2.out,by rw[World.size_setCell,World.size_setCell],fun i hi=>(heap_setCell_other _ _ _ _ hi).trans (heap_setCell_other _ _ _ _ hi),rfl,rfl,rfl⟩
def abX(D:aF)(t:List UInt8)(at_:Nat):Value:=match qC D t at_ with
 | some r=>.tuple #[.agg (Kw r.1 at_ r.2),.bool true]
 | none=>.tuple #[.agg #[.int .i64 0,.int .i64 0,.int .i64 0],.bool false]
theorem aeg{D:aF}{t:List UInt8}{at_:Nat}{k:Int}{e:Nat}(h:(qC D t at_).getD (0,at_)=(k,e)):(e=at_∧abX D t at_=.tuple #[.agg #[.int .i64 0,.int .i64 0,.int .i64 0],.bool false])∨(at_<e∧abX D t at_=.tuple #[.agg (Kw k at_ e),.bool true]):=by
 unfold abX
 cases htk:qC D t at_ with
 | none =>
  rw[htk,Option.getD_none] at h
  exact .inl ⟨(Prod.mk.inj h).2.symm,rfl⟩
 | some r =>
  rw[htk,Option.getD_some] at h
  subst h
  exact .inr ⟨(yU htk).1,rfl⟩
theorem ahq(base cb vb:Nat)(V:au)(D:aF)(w0 w:World)(hw:kK D)(hV:V.of=D.of)(n wd lb lo nb no:Nat)(rb ro rc:Nat→Nat)(hM:yV w0 V D n wd lb lo nb no rb ro rc)(hB:Below w0.heap.size w0 w)(hC:En w base cb vb V n (oD D))
  (t:List UInt8) (ta:Option Addr) (tn tc at_:Nat) (hT:ak w (.slice ta tn tc) 1 bT t) (hat:at_≤t.length) (htl:t.length≤1099511627776) :
  Calls Tryz.prog 91 #[.pointer (some ⟨cb,0,none⟩),.slice ta tn tc,.int .i64 at_] w (bV w (abX D t at_)):=by
 obtain⟨tb,to_,htn,htc,aiK,hta,htx⟩:=ak.dG (f:=fun x:UInt8=>Value.int .u8 (x.toNat:Nat)) hT
 subst htn
 have hcut:=af5 hw t at_
 obtain⟨rest,hrest⟩:∃ rest,t.drop at_=rest:=⟨_,rfl⟩
 have hrl:rest.length=t.length - at_:=by rw[←hrest,List.length_drop]
 have hrx:∀ i (h:i<rest.length) (u:World),Below w.heap.size w u→u.cell? ⟨tb,to_+at_+i,none⟩=some (.int .u8 (rest[i].toNat:Nat)):=fun i h u hu=>by
  have h2:=htx (at_+i) (by omega) u hu
  rw[Nat.add_assoc,h2]
  simp only[←hrest,List.getElem_drop]
 rw[hrest] at hcut
 have ahw:=ah hcut;have HRX:=ah hrx;have D6:=ah hrl;have HW:=ah hw;have HM:=ah hM;have HB:=ah hB;have HC:=ah hC;have HTA:=ah hta;have HV:=ah hV
 clear hcut hrx hrl hw hM hB hC hta hrest htx hT hV
 have hai:(at_:Int)≤(t.length:Int):=by omega
 have ha0:(0:Int)≤(at_:Int):=by omega
 go_enter Tryz.func91,Tryz.ntmps91
 go_wp2
 refine wp_scope_straight ?_
 go_wp2
 have hbx:Box ((((w.alloc (.cells #[.pointer (some ⟨cb,0,none⟩)] 129)).alloc (.cells #[.int .i64 0,.int .i64 0,.int .i64 0] 61)).alloc (.cells #[.int .i64 0,.int .i64 at_,.int .i64 at_] 61))) w.heap.size #[.pointer (some ⟨cb,0,none⟩)] 129:=((Box.new w _ _).kept (aj _ _)).kept (aj _ _)
 have hby:Box ((((w.alloc (.cells #[.pointer (some ⟨cb,0,none⟩)] 129)).alloc (.cells #[.int .i64 0,.int .i64 0,.int .i64 0] 61)).alloc (.cells #[.int .i64 0,.int .i64 at_,.int .i64 at_] 61))) (w.heap.size+1) #[.int .i64 0,.int .i64 0,.int .i64 0] 61:=(Box.new' (World.size_alloc _ _).symm _ _).kept (aj _ _)
 have hbz:Box ((((w.alloc (.cells #[.pointer (some ⟨cb,0,none⟩)] 129)).alloc (.cells #[.int .i64 0,.int .i64 0,.int .i64 0] 61)).alloc (.cells #[.int .i64 0,.int .i64 at_,.int .i64 at_] 61))) (w.heap.size+1+1) (Kw 0 at_ at_) 61:=Box.new' (by rw[World.size_alloc,World.size_alloc]) _ _
 have hb1:Below w.heap.size w ((((w.alloc (.cells #[.pointer (some ⟨cb,0,none⟩)] 129)).alloc (.cells #[.int .i64 0,.int .i64 0,.int .i64 0] 61)).alloc (.cells #[.int .i64 0,.int .i64 at_,.int .i64 at_] 61))):=(((Below.refl _ w).alloc (Nat.le_refl _) _).alloc (by simp) _).alloc (by simp;omega) _
 generalize (((w.alloc (.cells #[.pointer (some ⟨cb,0,none⟩)] 129)).alloc (.cells #[.int .i64 0,.int .i64 0,.int .i64 0] 61)).alloc (.cells #[.int .i64 0,.int .i64 at_,.int .i64 at_] 61))=w1 at *
 refine wp_label ?_
 have hylt:=hby.lt
 have ah5:=hbz.lt
 by_cases hx:tc=at_
 ·subst hx
  have hr0:rest=[]:=List.eq_nil_of_length_eq_zero (by rw[D6.out];omega)
  have htok:qC D t tc=none:=by
   cases hk:qC D t tc with
   | none=>rfl
   | some r=>obtain⟨k,e⟩:=r;have:=yU hk;omega
  have hret:abX D t tc=.tuple #[.agg #[.int .i64 0,.int .i64 0,.int .i64 0],.bool false]:=by unfold abX;rw[htok]
  rw[hret]
  have hz:t.length - tc=0:=by omega
  obtain⟨z,hzz⟩:∃ z,t.length - tc=z:=⟨_,rfl⟩
  have HB1:=ah hb1;have RJ:=ah hby;have HBZ:=ah hbz
  clear hb1 hbx
  go_wp2
  go_loopw [21] (fun v21 wr=>v21=.int .i64 0∧wr=w1) (fun v21 _=>0)
  case atStart=>exact⟨rfl,rfl⟩
  case round =>
   obtain⟨rfl,hwr⟩:=hrel
   rw[←hwr] at HB1 RJ HBZ hylt ah5
   have hzi:decide ((0:Int)<((t.length - tc:Nat):Int))=false:=by simp;omega
   have d2:wr.cell? ⟨w.heap.size+1+1,2,none⟩=some (.int .i64 tc):=HBZ.out.cell 2
   have y0:wr.cell? ⟨w.heap.size+1,0,none⟩=some (.int .i64 0):=RJ.out.cell 0
   have y1:wr.cell? ⟨w.heap.size+1,1,none⟩=some (.int .i64 0):=RJ.out.cell 1
   have y2:wr.cell? ⟨w.heap.size+1,2,none⟩=some (.int .i64 0):=RJ.out.cell 2
   have f0:=RJ.out.free 0
   have f1:=RJ.out.free 1
   have f2:=RJ.out.free 2
   have hfin:=((RJ.out.set 0 (.int .i64 0)).set 1 (.int .i64 0)).set 2 (.int .i64 0)
   have UN:=ah hfin
   clear hwr hfin
   go_wp2
   refine bodyPost_ret (fQ rfl _ _ (w.heap.size+1) 61 _ (.bool false) rfl rfl UN.out Tryz.underlying61 rfl (by kernel_rfl)) rfl ?_
   exact⟨by rw[hret];rfl,((HB1.out.setCell (by simp) _).setCell (by simp) _).setCell (by simp) _⟩
 ·have hne:(tc=at_)=False:=eq_false hx
  have hsa:∀ i,i<rest.length→Option.map (fun x:Addr=>x.add at_) ta=some ⟨tb,to_+at_,none⟩:=fun i hi=>by
   rw[HTA.out 0 (by rw[D6.out] at hi;omega)]
   simp[Addr.add]
  have HSA:=ah hsa;have HB1:=ah hb1;have FH:=ah hbx;have RJ:=ah hby;have HBZ:=ah hbz
  obtain⟨m,hm⟩:∃ m,t.length - at_=m:=⟨_,rfl⟩
  have HMM:=ah hm
  obtain⟨R,hR⟩:∃ R,(qC D t at_).getD (0,at_)=R:=⟨_,rfl⟩
  have hcut:=ahw.out
  rw[hR] at hcut
  have HR:=ah hR;have HCU:=ah hcut
  have hn1:=HM.out.Lm
  clear hsa hb1 hbx hby hbz hm hR hcut ahw
  go_wp2
  generalize Option.map (fun x:Addr=>x.add at_) ta=sa at *
  have hml:m≤tc - at_:=by have:=HMM.out;omega
  rw[HMM.out]
  go_loopw [10,21] (fun v10 v21 wr=>∃ (i s:Nat) (k:Int) (e:Nat),i≤m∧v21=.int .i64 i∧v10=.int .i64 s∧s<n∧Box wr (w.heap.size+1+1) (Kw k at_ e) 61∧Box wr w.heap.size #[.pointer (some ⟨cb,0,none⟩)] 129∧Box wr (w.heap.size+1) #[.int .i64 0,.int .i64 0,.int .i64 0] 61∧Below w.heap.size w wr∧abW D (gV D) s (at_+i) (k,e) (rest.drop i)=R) (fun _ v21 _=>m - (intOf v21).toNat)
  case atStart=>exact⟨0,0,0,at_,Nat.zero_le _,rfl,rfl,hn1.1,HBZ.out,FH.out,RJ.out,HB1.out,by rw[List.drop_zero,Nat.add_zero];exact HCU.out⟩
  case round =>
   obtain⟨i,s,k,e,hi,rfl,rfl,hs,hz,hx,hy,hBw,hcut⟩:=hrel
   by_cases hlt:i<m
   ·have hlr:i<rest.length:=by rw[D6.out,HMM.out];exact hlt
    obtain rfl:=HSA.out i hlr
    have c0:=HRX.out i hlr wr hBw
    rw[List.drop_eq_getElem_cons hlr,abW] at hcut
    generalize rest[i]=b at *
    have hbl:=World.block_lt_of_cell? wr _ c0
    have hii:(i:Int)<(m:Int):=by omega
    have hi0:(0:Int)≤(i:Int):=by omega
    have aeW:Below w0.heap.size w0 wr:=HB.out.trans (hBw.mono HB.out.size)
    obtain⟨hc1,hc2⟩:=HM.out.cap s hs
    obtain⟨aiL,BF⟩:=HM.out.nc
    have hob:=HM.out.of b.toNat b.toNat_lt
    have hto:=HM.out.lt s hs _ hob
    have hgo:mV D s b=stepD D s (D.of b.toNat):=afP D s b
    rw[hgo] at hcut
    have hDr:Below wr.heap.size wr wr.drew:=(Below.refl _ _).drew
    have HF:Hid (∀ u,Later wr.drew u→Box u w.heap.size #[.pointer (some ⟨cb,0,none⟩)] 129∧u.cell? ⟨cb,257,none⟩=some (.slice (some ⟨nb,no,none⟩) n V.nc)∧u.cell? ⟨cb,b.toNat,none⟩=some (.int .u8 (D.of b.toNat:Nat))∧u.cell? ⟨nb,no+s,none⟩=some (.slice (some ⟨rb s,ro s,none⟩) wd (rc s))∧u.cell? ⟨rb s,ro s+D.of b.toNat,none⟩=some (.int .i64 (stepD D s (D.of b.toNat):Nat))∧Below wr.heap.size wr u):=ah fun u hu=>by
     have h1:Below wr.heap.size wr u:=hDr.trans (hu.mono hDr.size)
     have h2:Below w0.heap.size w0 u:=aeW.trans (h1.mono aeW.size)
     have h3:=((HC.out.kept hBw).kept h1).box
     refine⟨hx.kept h1,?_,?_,HM.out.row s hs u h2,HM.out.Xy s hs _ hob u h2,h1⟩
     ·rw[h3.cell,abw _ _ _ (by decide),V.uI,HM.out.na,HM.out.nn]
     ·rw[h3.cell,abw _ _ _ (by have:=b.toNat_lt;omega),V.DJ _ b.toNat_lt,HV.out]
    have HZ:=ah hz;have HY:=ah hy;have HX:=ah hx;have nI:=ah hBw;have HCT:=ah hcut;have ah6:=ah aeW
    have hbt:=b.toNat_lt
    generalize b.toNat=bn at *
    generalize D.of bn=ob at *
    generalize stepD D s ob=s2 at *
    generalize rb s=rbs at *
    generalize ro s=ros at *
    generalize rc s=rcs at *
    have hsi:(s:Int)<(n:Int):=by omega
    have hs0:(0:Int)≤(s:Int):=by omega
    have hoi:(ob:Int)<(wd:Int):=by omega
    have ho0:(0:Int)≤(ob:Int):=by omega
    have hbi:(bn:Int)<256:=by omega
    have hb0:(0:Int)≤(bn:Int):=by omega
    clear hz hx hy hBw hcut aeW hDr hgo
    go_wp2_with fail
    refine aW (R:=Later) 18 (by kernel_rfl) ?_
    refine pl [0,1,2,3,4,5,6,7,8,9,10,11,12,13,14,15,16,17] ?_
    repeat
     refine jW ?_ rfl (fun w1 hl=>?_) ?_
     rotate_left
     ·obtain⟨hX,q1,q2,q3,q4,hq⟩:=HF.out w1 hl;have x0:w1.cell? ⟨w.heap.size,0,none⟩=some (.pointer (some ⟨cb,0,none⟩)):=hX.cell 0;have l0:=hX.lt;have l1:=World.block_lt_of_cell? w1 _ q1;have l2:=World.block_lt_of_cell? w1 _ q3;have l3:=World.block_lt_of_cell? w1 _ q4;go_simp;try with_reducible rfl
     simp only[eA,eB,eC,Act.put,eD,eE,eF]
    refine eX ?_
    refine bC (by kernel_rfl) (fun w1 hl=>?_) _
    obtain⟨hX1,_,_,_,_,ae0⟩:=HF.out w1 hl
    have hBw1:=nI.out.trans (ae0.mono nI.out.size)
    have hZ1:=HZ.out.kept ae0
    have hC1:=HC.out.kept hBw1
    have hkp:=ahp cb w.heap.size (w.heap.size+1+1) V D (.slice (some ⟨vb,0,none⟩) n n) n wd lb lo nb no rb ro rc w0 w1 HM.out (HB.out.trans (hBw1.mono HB.out.size)) hC1.box hX1 k at_ e s2 (at_+i+1) hto hZ1
    rw[show((at_+i+1:Nat):Int)=(at_:Int)+(i:Int)+1 by omega] at hkp
    have FW:=ah hkp;have HC1:=ah hC1;have HX1:=ah hX1;have HY1:=ah (HY.out.kept ae0);have ab4:=ah hBw1
    have akv:m≤1099511627776:=by have:=HMM.out;omega
    clear hX1 ae0 hBw1 hZ1 hC1 hkp HF HZ HY HX nI ah6 hl c0
    go_wp2_with fail
    refine FW.out.mono ?_
    rintro r w2 ⟨⟨v,rfl⟩,hZ2,hs2,ho2,o1,o2,o3⟩
    obtain⟨k2,e2,hke⟩:∃ (k2:Int) (e2:Nat),(if labS D s2=0 then (k,e) else (labS D s2,at_+i+1))=(k2,e2):=⟨_,_,rfl⟩
    have hZ3:Box w2 (w.heap.size+1+1) (Kw k2 at_ e2) 61:=by
     by_cases h0:labS D s2=0
     ·rw[if_pos h0] at hke hZ2
      obtain⟨rfl,rfl⟩:=Prod.mk.inj hke
      exact hZ2
     ·rw[if_neg h0] at hke hZ2
      obtain⟨rfl,rfl⟩:=Prod.mk.inj hke
      exact hZ2
    have hcut:=HCT.out
    rw[hke,aaN (by rw[HM.out.nl];exact hto)] at hcut
    have hBw2:Below w.heap.size w w2:=⟨o1.trans ab4.out.os,o2.trans ab4.out.tape,o3.trans ab4.out.output,by rw[hs2];exact ab4.out.size,fun b hb=>(ho2 b (by omega)).trans (ab4.out.block b hb)⟩
    have hC2:=HC.out.kept hBw2
    have hX2:Box w2 w.heap.size #[.pointer (some ⟨cb,0,none⟩)] 129:=(ho2 _ (by omega)).trans HX1.out
    have hY2:Box w2 (w.heap.size+1) #[.int .i64 0,.int .i64 0,.int .i64 0] 61:=(ho2 _ (by omega)).trans HY1.out
    have x0:w2.cell? ⟨w.heap.size,0,none⟩=some (.pointer (some ⟨cb,0,none⟩)):=hX2.cell 0
    have x1:w2.cell? ⟨cb,260,none⟩=some (.slice (some ⟨vb,0,none⟩) n n):=(hC2.box.cell 260).trans (abA _ _)
    have hsl:=nU n (oD D)
    obtain⟨g1,g2,g3,g4⟩:=hC2.live.cellAt (i:=s2) (j:=0) (by rw[hsl];exact hto) (by decide)
    rw[show s2*1+0=s2 by omega,BL] at g1
    have g1':w2.cell? ⟨vb,s2,none⟩=some (.bool ((oD D).contains s2)):=by rw[g1];rfl
    have l0:=hX2.lt
    have l1:=hC2.box.lt
    have akw:(s2:Int)<(n:Int):=by omega
    have akx:(0:Int)≤(s2:Int):=by omega
    have HZ:=ah hZ3;have HX:=ah hX2;have HY:=ah hY2;have nI:=ah hBw2;have HCC:=ah hcut
    clear hZ2 hZ3 hX2 hY2 hBw2 hC2 hke hcut g1 g2 o1 o2 o3 ho2 FW HC1 HX1 HY1 ab4 HCT
    cases hlv:(oD D).contains s2 with
    | true =>
     rw[hlv] at g1' HCC
     rw[if_pos rfl] at HCC
     go_wp2
     exact⟨⟨i+1,s2,k2,e2,hlt,by push_cast;rfl,rfl,hto,HZ.out,HX.out,HY.out,nI.out,by rw[←Nat.add_assoc];exact HCC.out⟩,by simp[intOf];omega⟩
    | false =>
     rw[hlv] at g1' HCC
     rw[if_neg (by simp)] at HCC
     generalize k2=k9 at *
     generalize e2=e9 at *
     rcases aeg (HR.out.trans HCC.out.symm) with⟨rfl,hret⟩ | ⟨ah7,hret⟩
     ·have d2:w2.cell? ⟨w.heap.size+1+1,2,none⟩=some (.int .i64 e9):=HZ.out.cell 2
      have y0:w2.cell? ⟨w.heap.size+1,0,none⟩=some (.int .i64 0):=HY.out.cell 0
      have y1:w2.cell? ⟨w.heap.size+1,1,none⟩=some (.int .i64 0):=HY.out.cell 1
      have y2:w2.cell? ⟨w.heap.size+1,2,none⟩=some (.int .i64 0):=HY.out.cell 2
      have f0:=HY.out.free 0
      have f1:=HY.out.free 1
      have f2:=HY.out.free 2
      have ly:=HY.out.lt
      have lz:=HZ.out.lt
      have UN:=ah (((HY.out.set 0 (.int .i64 0)).set 1 (.int .i64 0)).set 2 (.int .i64 0))
      go_wp2
      refine bodyPost_ret (fQ rfl _ _ (w.heap.size+1) 61 _ (.bool false) rfl rfl UN.out Tryz.underlying61 rfl (by kernel_rfl)) rfl ?_
      exact⟨by rw[hret];rfl,((nI.out.setCell (by simp) _).setCell (by simp) _).setCell (by simp) _⟩
     ·have d0:w2.cell? ⟨w.heap.size+1+1,0,none⟩=some (.int .i64 k9):=HZ.out.cell 0
      have d1:w2.cell? ⟨w.heap.size+1+1,1,none⟩=some (.int .i64 at_):=HZ.out.cell 1
      have d2:w2.cell? ⟨w.heap.size+1+1,2,none⟩=some (.int .i64 e9):=HZ.out.cell 2
      have y0:w2.cell? ⟨w.heap.size+1,0,none⟩=some (.int .i64 0):=HY.out.cell 0
      have y1:w2.cell? ⟨w.heap.size+1,1,none⟩=some (.int .i64 0):=HY.out.cell 1
      have y2:w2.cell? ⟨w.heap.size+1,2,none⟩=some (.int .i64 0):=HY.out.cell 2
      have f0:=HY.out.free 0
      have f1:=HY.out.free 1
      have f2:=HY.out.free 2
      have ly:=HY.out.lt
      have lz:=HZ.out.lt
      have hnq:((e9:Int)==(at_:Int))=false:=by simp;omega
      have UN:=ah (((HY.out.set 0 (.int .i64 k9)).set 1 (.int .i64 at_)).set 2 (.int .i64 e9))
      go_wp2
      refine bodyPost_ret (fQ rfl _ _ (w.heap.size+1) 61 _ (.bool true) rfl rfl UN.out Tryz.underlying61 rfl (by kernel_rfl)) rfl ?_
      exact⟨by rw[hret];rfl,((nI.out.setCell (by simp) _).setCell (by simp) _).setCell (by simp) _⟩
   ·obtain rfl:i=m:=by omega
    rw[List.drop_of_length_le (by rw[D6.out,HMM.out];exact Nat.le_refl _),abW] at hcut
    have HZ:=ah hz;have HY:=ah hy;have nI:=ah hBw;have HCC:=ah hcut
    clear hz hy hBw hcut hx
    generalize k=k9 at *
    generalize e=e9 at *
    rcases aeg (HR.out.trans HCC.out.symm) with⟨rfl,hret⟩ | ⟨ah7,hret⟩
    ·have d2:wr.cell? ⟨w.heap.size+1+1,2,none⟩=some (.int .i64 e9):=HZ.out.cell 2
     have y0:wr.cell? ⟨w.heap.size+1,0,none⟩=some (.int .i64 0):=HY.out.cell 0
     have y1:wr.cell? ⟨w.heap.size+1,1,none⟩=some (.int .i64 0):=HY.out.cell 1
     have y2:wr.cell? ⟨w.heap.size+1,2,none⟩=some (.int .i64 0):=HY.out.cell 2
     have f0:=HY.out.free 0
     have f1:=HY.out.free 1
     have f2:=HY.out.free 2
     have ly:=HY.out.lt
     have lz:=HZ.out.lt
     have UN:=ah (((HY.out.set 0 (.int .i64 0)).set 1 (.int .i64 0)).set 2 (.int .i64 0))
     go_wp2
     refine bodyPost_ret (fQ rfl _ _ (w.heap.size+1) 61 _ (.bool false) rfl rfl UN.out Tryz.underlying61 rfl (by kernel_rfl)) rfl ?_
     exact⟨by rw[hret];rfl,((nI.out.setCell (by simp) _).setCell (by simp) _).setCell (by simp) _⟩
    ·have d0:wr.cell? ⟨w.heap.size+1+1,0,none⟩=some (.int .i64 k9):=HZ.out.cell 0
     have d1:wr.cell? ⟨w.heap.size+1+1,1,none⟩=some (.int .i64 at_):=HZ.out.cell 1
     have d2:wr.cell? ⟨w.heap.size+1+1,2,none⟩=some (.int .i64 e9):=HZ.out.cell 2
     have y0:wr.cell? ⟨w.heap.size+1,0,none⟩=some (.int .i64 0):=HY.out.cell 0
     have y1:wr.cell? ⟨w.heap.size+1,1,none⟩=some (.int .i64 0):=HY.out.cell 1
     have y2:wr.cell? ⟨w.heap.size+1,2,none⟩=some (.int .i64 0):=HY.out.cell 2
     have f0:=HY.out.free 0
     have f1:=HY.out.free 1
     have f2:=HY.out.free 2
     have ly:=HY.out.lt
     have lz:=HZ.out.lt
     have hnq:((e9:Int)==(at_:Int))=false:=by simp;omega
     have UN:=ah (((HY.out.set 0 (.int .i64 k9)).set 1 (.int .i64 at_)).set 2 (.int .i64 e9))
     go_wp2
     refine bodyPost_ret (fQ rfl _ _ (w.heap.size+1) 61 _ (.bool true) rfl rfl UN.out Tryz.underlying61 rfl (by kernel_rfl)) rfl ?_
     exact⟨by rw[hret];rfl,((nI.out.setCell (by simp) _).setCell (by simp) _).setCell (by simp) _⟩
end
section
open Go.RowKit
theorem afp{D:aF}{h:List UInt8}(b:List UInt8)(hs:gq D false h=true)(en:Bool):gq D en (h++b)=true:=by
 obtain⟨j,h0,h1,hd⟩:=Vu hs
 exact aa0 en h0 (by rw[List.length_append];omega) (by rw[List.take_append_of_le_length h1];exact hd)
theorem yE.feed{D:aF}(hw:kK D){X:jH}{W:List UInt8}(h:yE D X W)(he:X.en=false)(b:List UInt8) :
  (wY D X b).1=(zu D (W++b) false X.at_).1∧(wY D X b).2.at_=(zu D (W++b) false X.at_).2∧(wY D X b).2.en=false∧yE D (wY D X b).2 (W++b):=by
 obtain⟨held,at_,en,sk⟩:=X
 obtain rfl:en=false:=he
 obtain⟨hle,hgo,hst⟩:=h
 dsimp only at hle hgo hst ⊢
 have hdr:(W++b).drop at_=W.drop at_++b:=List.drop_append_of_le_length hle
 have hll:(W++b).length=W.length+b.length:=List.length_append
 unfold wY
 cases sk with
 | true =>
  obtain⟨h1,h2,h3,h4⟩:=hst rfl
  have hb:dZ D 0 ((W++b).drop at_)=none:=by rw[hdr,Yz hw _ h4];exact h3
  rw[if_pos (.inr rfl),Vw hb]
  refine⟨rfl,rfl,rfl,?_,fun e=>(by cases e),fun _=>⟨h1,?_,hb,?_⟩⟩
  ·show at_≤_;omega
  ·show at_<_;omega
  ·show gq D false ((W++b).drop at_)=true
   rw[hdr];exact afp _ h4 _
 | false =>
  rw[if_neg (by simp)]
  exact yE.tell (D:=D) (X:=⟨held++b,at_,false,false⟩) (W:=W++b) (by show held++b=_;rw[hdr,(hgo rfl).1]) (by show at_≤_;omega) rfl
theorem Qi.feed{D:aF}(hw:kK D){X:jH}{W:List UInt8}{acc:List (Int×Nat×Nat)}(h:yE D X W)(ha:Qi D X W acc)(he:X.en=false)(b:List UInt8):Qi D (wY D X b).2 (W++b) (acc++(wY D X b).1):=by
 obtain⟨g1,g2,g3,_⟩:=h.feed hw he b
 intro Z _
 have h1:=ha (b++Z) (fun e=>by rw[he] at e;cases e)
 have h2:=Jw hw (W++b) Z false (fun e=>by cases e) ((W++b).length - X.at_+1) X.at_ (by have:=h.le;rw[List.length_append];omega)
 rw[←List.append_assoc] at h1
 rw[h1,h2,g1,g2]
 unfold zu
 rw[List.append_assoc W,List.append_assoc acc]
end
section
open Go.RowKit
def ab2(D:aF)(t:List UInt8):List (Int×Nat×Nat)×Nat:=jv D t (t.length+1) 0
def ahr(w:World)(l:List (Int×Nat×Nat))(n:Nat)(c:Nat)(e:Ending)(w':World):Prop :=
 ∃ a cap,e=.returned (.tuple #[.slice a l.length cap,.int .i64 n,.int .i64 c])∧Own w' w.heap.size 61 3 AA (.slice a l.length cap) l∧Below w.heap.size w w'
theorem abv(D:aF)(t:List UInt8):∀ (f a:Nat),(jv D t f a).1.length≤f
 | 0,_=>Nat.le_refl _
 | f+1,a=>by
  rw[jv]
  cases qC D t a with
  | none=>exact Nat.zero_le _
  | some r=>have:=abv D t f r.2;simp only[List.length_cons];omega
theorem afq(V:au)(D:aF)(t:List UInt8)(ta:Option Addr)(tn tc:Nat)(w:World)(h:kJ w V D)(hl:∀ x∈D.names,x.length≤9223372036854775807)(hr:o9 D=true)(hT:ak w (.slice ta tn tc) 1 bT t)(htl:t.length≤1099511627776) :
  Calls Tryz.prog 53 #[.agg V.cells,.slice ta tn tc] w (ahr w (ab2 D t).1 (ab2 D t).2 0):=by
 have hw:=OW hr
 obtain⟨n,wd,lb,lo,nb,no,rb,ro,rc,hm⟩:=machC h hw
 have hbx:=Box.new w V.cells 27
 have hB0:=aj w (.cells V.cells 27)
 have HR:=ah (fun u hu=>hr▸DK V D u (h.kept hu) hl)
 have HC:=ah (fun u hu=>adT V D u (h.kept hu) hl hr)
 have HT:=ah hT;have HM:=ah hm;have HW:=ah hw
 have HV:=ah h.1
 clear h hl hr hT hm hw
 go_enter Tryz.func53,Tryz.ntmps53
 go_wp2_with (first | (refine dL (by rfl) 27 _ rfl w.heap.size rfl _ _ _ _ hbx Tryz.underlying27 rfl (bU _) ?_) | (go_at_call 40;go_must (refine(HR.out _ hB0).mono ?_;rintro e w2 ⟨rfl,hb2⟩;have hbw:=hB0.trans (hb2.mono hB0.size);have hbx2:=hbx.kept hb2)) | (refine dL (by rfl) 27 _ rfl w.heap.size rfl _ _ _ _ hbx2 Tryz.underlying27 rfl (bU _) ?_) | (go_at_call 90;go_must (refine(HC.out _ hbw).mono ?_;rintro e w3 ⟨cb,vb,rfl,hcu,hb3⟩)))
 have hB3:=hbw.trans (hb3.mono hbw.size)
 rw[HM.out.nl] at hcu
 have HCU:=ah hcu;have HB3:=ah hB3
 obtain⟨TK,hTK⟩:∃ TK,ab2 D t=TK:=⟨_,rfl⟩
 rw[hTK]
 have wF:=ah hTK
 clear hcu hB3 hb3 hbx2 hbw hb2 hB0 hbx HR HC hTK
 go_loopw [8,9] (fun v8 v9 wr=>∃ (f at_:Nat) (acc:List (Int×Nat×Nat)) (a:Option Addr) (c:Nat),v8=.slice a acc.length c∧v9=.int .i64 at_∧at_≤t.length∧Own wr w3.heap.size 61 3 AA (.slice a acc.length c) acc∧Below w3.heap.size w3 wr∧acc++(jv D t f at_).1=TK.1∧(jv D t f at_).2=TK.2∧t.length+1≤f+at_) (fun _ v9 _=>t.length - (intOf v9).toNat)
 case atStart=>exact⟨t.length+1,0,[],none,0,rfl,rfl,Nat.zero_le _,Own.nil _ _ _ _ _,Below.refl _ _,by rw[List.nil_append,←wF.out];rfl,by rw[←wF.out];rfl,Nat.le_refl _⟩
 case round =>
  obtain⟨f,at_,acc,a,c,rfl,rfl,hat,hown,hB,h1,h2,hf⟩:=hrel
  have hBw:Below w.heap.size w wr:=HB3.out.trans (hB.mono HB3.out.size)
  have hnx:=ahq w2.heap.size cb vb V D w wr HW.out HV.out n wd lb lo nb no rb ro rc HM.out hBw (HCU.out.kept hB) t ta tn tc at_ (HT.out.kept hBw) hat htl
  obtain⟨f,rfl⟩:∃ f',f=f'+1:=⟨f - 1,by omega⟩
  rw[jv] at h1 h2
  unfold abX at hnx
  have hal:acc.length≤t.length+1:=by
   have e1:=congrArg List.length h1
   have e2:=abv D t (t.length+1) 0
   rw[List.length_append] at e1
   have e3:TK.1.length≤t.length+1:=by rw[←wF.out];exact e2
   omega
  cases htk:qC D t at_ with
  | none =>
   rw[htk] at hnx h1 h2
   dsimp only at hnx h1 h2
   rw[List.append_nil] at h1
   have HN:=ah hnx;have H1:=ah (And.intro h1 h2);have HO:=ah hown;have nI:=ah hBw;have HBB:=ah hB
   clear hnx h1 h2 hown hBw hB htk
   go_wp2_with (go_at_call 91;go_must (refine HN.out.mono ?_;rintro e w4 ⟨rfl,hb4⟩))
   go_ret3
   obtain⟨h1,h2⟩:=H1.out
   have hB4:=HBB.out.trans (hb4.mono HBB.out.size)
   refine⟨a,c,by rw[←h1,←h2];rfl,?_,?_⟩
   ·rw[←h1];exact((HO.out.kept hb4).kept (aj _ _)).mono HB3.out.size
   ·exact(HB3.out.trans (hB4.mono HB3.out.size)).alloc (Nat.le_trans HB3.out.size hB4.size) _
  | some r =>
   obtain⟨k,e⟩:=r
   have hte:=yU htk
   rw[htk] at hnx h1 h2
   dsimp only at hnx h1 h2
   rw[show acc++(k,at_,e)::(jv D t f e).1=(acc++[(k,at_,e)])++(jv D t f e).1 by simp] at h1
   have HN:=ah hnx;have H1:=ah (And.intro h1 h2);have HO:=ah hown;have nI:=ah hBw;have HBB:=ah hB
   obtain⟨ht1,ht2,_⟩:=hte
   clear hnx h1 h2 hown hBw hB htk
   have hpos:=HBB.out.size
   go_wp2_with (first | (go_at_call 91;go_must (refine HN.out.mono ?_;rintro e4 w4 ⟨rfl,hb4⟩;have qL:=((HO.out.kept hb4).kept (aj w4 (.cells (Kw k at_ e) 61))).kept (aj _ (.cells (Kw k at_ e) 61));have aky:=hb4.size)) | (at_builtin;go_must (refine fJ rfl _ _ 55 rfl aa3 YB rfl qL ⟨w4.heap.size+1,0,none⟩ 1 (k,at_,e) rfl (by rw[←World.size_alloc w4 (.cells (Kw k at_ e) 61)];exact cZ _ (AA (k,at_,e)) _) (by simp only[maxLen];omega) (by omega) (by simp only[World.size_alloc];omega) ?_;intro a7 c7 w7 iy cO;have hbk:Box w7 w4.heap.size (Kw k at_ e) 61:=(cO.block w4.heap.size (by simp only[World.size_alloc];omega) (fun e'=>by { have:=((HO.out.kept hb4).blk e'.symm).2;omega })).trans ((Box.new w4 _ _).kept (aj _ _));have y2:w7.cell? ⟨w4.heap.size,2,none⟩=some (.int .i64 e):=hbk.cell 2;have l2:=hbk.lt)))
   obtain⟨h1,h2⟩:=H1.out
   have hB4:=HBB.out.trans (hb4.mono HBB.out.size)
   have hs4:=hB4.size
   have dw:=(hB4.alloc hB4.size (.cells (Kw k at_ e) 61)).alloc (by simp only[World.size_alloc];omega) (.cells (Kw k at_ e) 61)
   exact⟨⟨f,e,acc++[(k,at_,e)],a7,c7,by simp,rfl,ht2,by simpa using iy,below_grown dw qL cO (Nat.le_refl _) (by simp only[World.size_alloc];omega),h1,h2,by omega⟩,by simp[intOf];omega⟩
end
section
open Go.RowKit
abbrev adN(x:Int×Int×Int):List Value:=[.int .i64 x.1,.int .i64 x.2.1,.int .i64 x.2.2]
def aeh(x:Int×Nat×Nat):Int×Int×Int:=(x.1,(x.2.1:Int),(x.2.2:Int))
theorem ak.aeh{w:World}{v:Value}{xs:List (Int×Nat×Nat)}(h:ak w v 3 AA xs):ak w v 3 adN (xs.map aeh):=by
 obtain⟨a,b,o,cap,rfl,hl,hc,ha,hx⟩:=h
 refine⟨a,b,o,cap,by rw[List.length_map],by rw[List.length_map];exact hl,hc,ha.imp id (fun⟨h1,h2⟩=>⟨by rw[h1];rfl,h2⟩),fun i hi j u hu=>?_⟩
 rw[List.length_map] at hi
 rw[List.getElem_map] at hu
 exact hx i hi j u hu
theorem aei{P:Nat→Value→Prop}{x:Int×Int×Int}(h:∀ j u,(adN x)[j]?=some u→P j u):P 0 (.int .i64 x.1)∧P 1 (.int .i64 x.2.1)∧P 2 (.int .i64 x.2.2):=⟨h 0 _ rfl,h 1 _ rfl,h 2 _ rfl⟩
theorem ae6(xs:List (Int×Int×Int))(a b:Option Addr)(n m c d:Nat)(w:World)(ha:ak w (.slice a n c) 3 adN xs)(hb:ak w (.slice b m d) 3 adN xs) :
  Calls Tryz.prog 45 #[.slice a n c,.slice b m d] w (bV w (.bool true)):=by
 obtain⟨ab,ao,hn,hc,hc2,SH,hax⟩:=ha.open
 obtain⟨bb,bo,hm,hd,hd2,hba,hbx⟩:=hb.open
 obtain⟨k,hk⟩:∃ k,xs.length=k:=⟨_,rfl⟩
 subst hn
 subst hm
 have HK:=ah hk;have HAA:=ah SH;have HBA:=ah hba;have HAX:=ah hax;have FH:=ah hbx
 rw[hk] at hc hd ⊢
 clear ha hb SH hba hax hbx hk
 go_enter Tryz.func45,Tryz.ntmps45
 go_wp2
 go_loopw [5] (fun v5 wr=>∃ i:Nat,i≤k∧v5=.int .i64 i∧Below w.heap.size w wr) (fun v5 _=>k - (intOf v5).toNat)
 case atStart=>exact⟨0,Nat.zero_le _,rfl,Below.refl _ _⟩
 case round =>
  obtain⟨i,hi,rfl,hB⟩:=hrel
  by_cases hlt:i<k
  ·have hlx:i<xs.length:=by rw[HK.out];exact hlt
   obtain rfl:=HAA.out i hlx
   obtain rfl:=HBA.out i hlx
   have ca:=aei (HAX.out i hlx)
   have cb:=aei (FH.out i hlx)
   generalize xs[i]=x at *
   obtain⟨x0,x1,x2⟩:=x
   dsimp only at ca cb
   have hii:(i:Int)<(k:Int):=by omega
   have hi0:(0:Int)≤(i:Int):=by omega
   have hDr:Below w.heap.size w wr.drew:=hB.trans ((Below.refl _ _).drew.mono hB.size)
   have HF:Hid (∀ u,Later wr.drew u→(u.cell? ⟨ab,ao+i*3,none⟩=some (.int .i64 x0)∧u.cell? ⟨ab,ao+i*3+1,none⟩=some (.int .i64 x1)∧u.cell? ⟨ab,ao+i*3+2,none⟩=some (.int .i64 x2))∧(u.cell? ⟨bb,bo+i*3,none⟩=some (.int .i64 x0)∧u.cell? ⟨bb,bo+i*3+1,none⟩=some (.int .i64 x1)∧u.cell? ⟨bb,bo+i*3+2,none⟩=some (.int .i64 x2))∧Below w.heap.size w u):=ah fun u hu=>by
    have h1:Below w.heap.size w u:=hDr.trans (hu.mono hDr.size)
    have hc:∀ {ad:Addr} {v:Value},w.cell? ad=some v→u.cell? ad=some v:=fun e=>(h1.cell (World.block_lt_of_cell? w _ e)).trans e
    exact⟨⟨hc ca.1,hc ca.2.1,hc ca.2.2⟩,⟨hc cb.1,hc cb.2.1,hc cb.2.2⟩,h1⟩
   clear ca cb hB hDr
   go_wp2_with fail
   refine aW (R:=Later) 9 (by kernel_rfl) ?_
   refine pl [0,1,2,3,4,5,6,7,8] ?_
   repeat
    refine jW ?_ rfl (fun w1 hl=>?_) ?_
    rotate_left
    ·obtain⟨⟨p0,p1,p2⟩,⟨q0,q1,q2⟩,_⟩:=HF.out w1 hl;have l1:=World.block_lt_of_cell? w1 _ p0;have l2:=World.block_lt_of_cell? w1 _ q0;go_simp;try with_reducible rfl
    simp only[eA,eB,eC,Act.put,eD,eE,eF]
   refine eX ?_
   refine bC (by kernel_rfl) (fun w1 hl=>?_) _
   have hq:=(HF.out w1 hl).2.2
   clear HF hl
   go_wp2
   exact⟨⟨i+1,hlt,by push_cast;rfl,hq⟩,by simp[intOf];omega⟩
  ·obtain rfl:i=k:=by omega
   go_wp2
   go_ret
   exact⟨rfl,hB⟩
end
end Go.Proofs.YtbemonecmmnlcaaGreatDoor
