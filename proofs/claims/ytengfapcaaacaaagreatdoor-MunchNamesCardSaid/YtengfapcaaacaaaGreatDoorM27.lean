/- The texts of N27, in few letters (mini.py). -/
import Derived.Test.YtengfapcaaacaaaGreatDoorM26
set_option linter.unusedVariables false
set_option linter.unusedSimpArgs false
set_option maxRecDepth 20000
set_option maxHeartbeats 3200000
namespace Go.Proofs.YtengfapcaaacaaaGreatDoor
section
open Go.RowKit
theorem GV:dQ Tryz.prog 23 24 (.slice none 0 0) 1 24:=⟨Tryz.underlying23,info_parts (by kernel_rfl),rfl,by decide⟩
structure jI(w:World)(qB:Nat)(inn:Nat→Prop)(bp mb:Nat)(B:jo)(kv:Value)(sets:List (List Nat))(next:List (List Int)):Prop where
 box:Box w bp (dB B) 187
 tab:TabAt w B.tb mb qB kv (sets.map (keyOf B.st))
 rows:pK w qB 24 inn aO B.sv sets
 nexts:pK w qB 24 inn encI B.nv next
 BJ:∀ x∈sets,yj B.st x
 BK:∀ b,inn b→b<w.heap.size
 rG:¬ inn bp∧¬ inn B.tb∧¬ inn mb
 JF:∀ g,kv.ownBlock=some g→¬ inn g
 JG:∀ g,B.sv.ownBlock=some g→¬ inn g
 JH:∀ g,B.nv.ownBlock=some g→¬ inn g
 sn:∀ g,B.sv.ownBlock=some g→B.nv.ownBlock≠some g
 lt:bp<qB∧bp≠B.tb∧bp≠mb
 small:B.st≤65536
 bs:qB≤w.heap.size
section
variable {w w':World} {qB:Nat} {inn:Nat→Prop} {bp mb:Nat} {B:jo} {kv:Value} {sets:List (List Nat)} {next:List (List Int)}
theorem pK.kept{α:Type}{E:Nat}{enc:α→List Value}{v:Value}{L:List (List α)}(h:pK w qB E inn enc v L)(hb:Below w.heap.size w w'):pK w' qB E inn enc v L:=by
 obtain⟨rows,h1,h2,h3⟩:=h
 exact⟨rows,h1.kept hb,h2,fun i a b=>by obtain⟨x,c,e,k⟩:=h3 i a b;exact⟨x,c,e,k.same (fun b _ hlt=>hb.block b hlt) (fun _ h=>h)⟩⟩
theorem jI.kept(h:jI w qB inn bp mb B kv sets next)(hb:Below w.heap.size w w'):jI w' qB inn bp mb B kv sets next :=
 ⟨h.box.kept hb,h.tab.kept hb,h.rows.kept hb,h.nexts.kept hb,h.BJ,fun b hi=>Nat.lt_of_lt_of_le (h.BK b hi) hb.size,h.rG,h.JF,h.JG,h.JH,h.sn,h.lt,h.small,Nat.le_trans h.bs hb.size⟩
theorem jI.more{w0:World}{a:Option Addr}(h:jI w qB inn bp mb B kv sets next)(hs:w0.heap.size≤w.heap.size)(hoff:∀ ad,a=some ad→ad.block<w0.heap.size∧ad.block≠bp∧ad.block≠B.tb∧ad.block≠mb∧kv.ownBlock≠some ad.block∧B.sv.ownBlock≠some ad.block∧B.nv.ownBlock≠some ad.block) :
  jI w qB (fun b=>inn b∨∃ ad,a=some ad∧ad.block=b) bp mb B kv sets next:=by
 refine⟨h.box,h.tab,h.rows.same (fun _ _ _=>rfl) (fun b hb=>.inl hb) (fun _ _=>rfl),h.nexts.same (fun _ _ _=>rfl) (fun b hb=>.inl hb) (fun _ _=>rfl),h.BJ,?_,?_,?_,?_,?_,h.sn,h.lt,h.small,h.bs⟩
 ·rintro b (hb | ⟨ad,ha,rfl⟩)
  ·exact h.BK b hb
  ·have:=(hoff ad ha).1;omega
 ·refine⟨?_,?_,?_⟩
  ·rintro(hb | ⟨ad,ha,e⟩)
   ·exact h.rG.1 hb
   ·exact(hoff ad ha).2.1 e
  ·rintro(hb | ⟨ad,ha,e⟩)
   ·exact h.rG.2.1 hb
   ·exact(hoff ad ha).2.2.1 e
  ·rintro(hb | ⟨ad,ha,e⟩)
   ·exact h.rG.2.2 hb
   ·exact(hoff ad ha).2.2.2.1 e
 ·rintro g hg (hb | ⟨ad,ha,rfl⟩)
  ·exact h.JF g hg hb
  ·exact(hoff ad ha).2.2.2.2.1 hg
 ·rintro g hg (hb | ⟨ad,ha,rfl⟩)
  ·exact h.JG g hg hb
  ·exact(hoff ad ha).2.2.2.2.2.1 hg
 ·rintro g hg (hb | ⟨ad,ha,rfl⟩)
  ·exact h.JH g hg hb
  ·exact(hoff ad ha).2.2.2.2.2.2 hg
theorem jI.after{kv':Value}{rows:List yI}(h:jI w qB inn bp mb B kv sets next)(k:aeE B.tb mb kv kv' w w')(hr:Own w qB 24 1 uz B.sv rows):Box w' bp (dB B) 187∧Own w' qB 24 1 uz B.sv rows:=by
 have hlt:=h.lt
 have htl:=h.tab.lt
 refine⟨(k.block bp h.box.lt hlt.2.1 hlt.2.2 fun e=>by have:=(h.tab.own.blk e).1;omega).trans h.box,hr.same fun g hg=>k.block g (hr.blk hg).2 (by have:=(hr.blk hg).1;omega) (by have:=(hr.blk hg).1;omega) fun e=>?_⟩
 obtain⟨_,c1,b1⟩:=hr.block g hg
 obtain⟨_,c2,b2⟩:=h.tab.own.block g e
 exact absurd (b1.lM b2) (by decide)
end
structure aeN(bp tb mb:Nat)(kv sv kv' sv':Value)(w w':World):Prop where
 os:w'.os=w.os
 tape:w'.tape=w.tape
 output:w'.output=w.output
 size:w.heap.size≤w'.heap.size
 block:∀ b,b<w.heap.size→b≠bp→b≠tb→b≠mb→kv.ownBlock≠some b→sv.ownBlock≠some b→w'.heap[b]?=w.heap[b]?
 aaB:∀ g,kv'.ownBlock=some g→kv.ownBlock=some g∨w.heap.size≤g
 Td:∀ g,sv'.ownBlock=some g→sv.ownBlock=some g∨w.heap.size≤g
theorem af5(S i:Nat)(h:S.testBit i=true):S ||| 1 <<< i=S:=by
 apply Nat.eq_of_testBit_eq
 intro j
 rw[Nat.testBit_or,Nat.one_shiftLeft,Nat.testBit_two_pow]
 by_cases e:i=j
 ·subst e;simp[h]
 ·simp[e]
theorem IW(p g n S i:Nat)(w:World)(h:fO w p g n S)(hi:i<n)(hn:n≤65536):Calls Tryz.prog 239 #[.pointer (some ⟨p,0,none⟩),.int .i64 i] w fun e w'=>(∃ b,e=.returned (.bool b))∧fO w' p g n (S ||| 1 <<< i)∧ig g w w':=by
 refine(QM p g n S i w h (by omega)).mono fun e w' hr=>?_
 unfold ou at hr
 cases hb:S.testBit i with
 | false =>
  rw[if_pos ⟨hi,hb⟩] at hr
  exact⟨⟨_,hr.1⟩,hr.2.1,hr.2.2⟩
 | true =>
  rw[if_neg (by simp[hb])] at hr
  obtain⟨rfl,rfl⟩:=hr
  exact⟨⟨_,rfl⟩,by rw[af5 S i hb];exact h,ig.refl _ _⟩
theorem L6(l:List Nat)(k:Nat)(h:k<l.length):setOf (l.take (k+1))=setOf (l.take k) ||| 1 <<< l[k]:=by
 unfold setOf;rw[List.take_succ_eq_append_getElem h,List.foldl_append];rfl
theorem Tf{n S x:Nat}(h:x∈gQ n S):x<n:=(Fj.1 h).1
def ahM(qB:Nat)(inn:Nat→Prop)(bp mb:Nat)(B:jo)(kv:Value)(sets:List (List Nat))(next:List (List Int))(l:List Nat)(a:Option Addr)(w:World)(e:Ending)(w':World):Prop :=
 e=.returned (.int .i64 (cu sets l).1)∧∃ kv' sv',jI w' qB (fun b=>inn b∨∃ ad,a=some ad∧ad.block=b) bp mb { B with sv:=sv' } kv' (cu sets l).2 next∧aeN bp B.tb mb kv B.sv kv' sv' w w'
theorem OZ(qB:Nat)(inn:Nat→Prop)(bp mb:Nat)(B:jo)(kv:Value)(sets:List (List Nat))(next:List (List Int))(l:List Nat)(a:Option Addr)(n cap:Nat)(w:World)(h:jI w qB inn bp mb B kv sets next)(hl:ak w (.slice a n cap) 1 aO l)(hset:yj B.st l)(hsl:sets.length≤1099511627776)
  (hoff:∀ ad,a=some ad→ad.block<w.heap.size∧ad.block≠bp∧ad.block≠B.tb∧ad.block≠mb∧kv.ownBlock≠some ad.block∧B.sv.ownBlock≠some ad.block∧B.nv.ownBlock≠some ad.block) :
  Calls Tryz.prog 201 #[.pointer (some ⟨bp,0,none⟩),.slice a n cap] w (ahM qB inn bp mb B kv sets next l a w):=by
 have hnew:=KH B.st w (by have:=h.small;omega)
 have x1:w.cell? ⟨bp,1,none⟩=some (.int .i64 B.st):=(h.box.cell 1).trans (uo B)
 have hbl:=h.box.lt
 have hsm:=h.small
 obtain⟨lb,lo,hn,hc,hc2,ha,hx⟩:=ak.dh (f:=fun x:Nat=>Value.int .i64 (x:Nat)) hl
 have hmem:∀ x∈l,x<B.st:=fun x hx=>by rw[hset.set.2] at hx;exact Tf hx
 have hnc:n≤cap:=by omega
 have HN:=ah hnew;have HL:=ah hl;have uK:=ah hn;have HA:=ah ha;have HX:=ah hx;have HM:=ah hmem;have HH:=ah h;have HO:=ah hoff;have HS:=ah hset
 clear hnew hl hn ha hx hmem h hoff hset hc
 have hidx:=LZ B.st l HS.out sets HH.out.BJ
 cases hj:sets.idxOf? l with
 | some j =>
  rw[hj] at hidx
  go_enter Tryz.func201,Tryz.ntmps201
  go_wp2_with (go_at_call 238;go_must (refine HN.out.mono ?_;rintro e w2 ⟨rfl,hB2,hs2,hb2⟩;have HB2:=ah (And.intro hB2 hb2);clear hB2 hb2))
  clear x1 hs2
  go_loopw [21] (fun i wr=>∃ k:Nat,k≤n∧i=.int .i64 k∧fO wr (w.heap.size+1) w.heap.size B.st (setOf (l.take k))∧Below w.heap.size w wr) (fun i _=>n - (intOf i).toNat)
  case atStart=>exact⟨0,Nat.zero_le _,rfl,HB2.out.1,HB2.out.2⟩
  case round =>
   obtain⟨k,hk,rfl,hBt,hB⟩:=hrel
   by_cases hlt:k<n
   ·have hlk:k<l.length:=by rw[←uK.out];exact hlt
    obtain rfl:=HA.out k hlk
    have c0:=HX.out k hlk wr hB
    have hbl:=World.block_lt_of_cell? wr _ c0
    have hft:=L6 l k hlk
    have hput:=IW (w.heap.size+1) w.heap.size B.st _ l[k] wr hBt (HM.out _ (List.getElem_mem hlk)) hsm
    rw[←hft] at hput
    generalize l[k]=s at *
    have HP:=ah hput
    clear hput hft hBt
    have hkn:(k:Int)<(n:Int):=by omega
    have hk0:(0:Int)≤(k:Int):=by omega
    go_wp2_with (go_at_call 239;go_must (refine HP.out.mono ?_;rintro e w4 ⟨⟨bb,rfl⟩,adk,hO4⟩))
    exact⟨⟨k+1,hlt,by push_cast;rfl,adk,hO4.toBelow hB (Nat.le_refl _)⟩,by simp[intOf];omega⟩
   ·obtain rfl:k=n:=by omega
    rw[uK.out,List.take_length] at hBt
    have HF:Hid (∀ u,Later wr.drew u→jI u qB inn bp mb B kv sets next∧fO u (w.heap.size+1) w.heap.size B.st (setOf l)∧Below w.heap.size w u):=ah fun u hl=>by
     have h1:Below w.heap.size w wr.drew:=hB.trans ((Below.refl wr.heap.size wr).drew.mono hB.size)
     have h2:=h1.trans (hl.mono h1.size)
     exact⟨HH.out.kept h2,⟨hBt.box.drew.kept hl,hBt.words.drew.kept hl,hBt.lt,hBt.ne⟩,h2⟩
    clear hBt hB
    go_wp2_with fail
    refine jq (R:=Later) [6,6] (by kernel_rfl) ?_
    refine pl [0,1,2] ?_
    repeat
     refine oM ?_ rfl (fun w1=>?_) ?_
     rotate_left
     ·go_simp;try with_reducible rfl
     simp only[eA,eB,eC,Act.put,eD,eE,eF]
    refine bU ?_
    refine AY 3 ?_ rfl (fun w1 hl=>?_) ?_
    rotate_left
    ·obtain⟨hX,_,_⟩:=HF.out w1 hl;have y2:w1.cell? ⟨bp,259,none⟩=some (.pointer (some ⟨B.tb,0,none⟩)):=(hX.box.cell 259).trans (uX B);go_simp;try with_reducible rfl
    simp only[eA,eB,eC,Act.put,eD,eE,eF]
    refine Kv 4 ?_ rfl (fun w1=>?_) ?_
    rotate_left
    ·go_simp;try with_reducible rfl
    simp only[eA,eB,eC,Act.put,eD,eE,eF]
    refine clT 5 ?_ ?_ ?_ rfl (fun w1=>?_) (fun w1 hl=>?_) ?_
    rotate_left 4
    ·exact Rk (w.heap.size+1) w.heap.size B.st (setOf l) w1 (by omega) (HF.out w1 hl).2.1
    rotate_left
    ·go_simp
    simp only[eA,eB,eC,Act.put,eD,eE,eF]
    refine dw (T:=[6,6]) (i:=6) (by kernel_rfl) rfl (fun w1 hl K hK=>?_)
    obtain⟨hX,_,hBw⟩:=HF.out w1 hl
    clear hl
    go_simp
    refine(XQ B.tb mb qB j kv _ (keyOf B.st l) w1 hX.tab hidx).mono ?_
    rintro e w5 ⟨rfl,rfl⟩
    refine hK.out _ _ (fun h=>absurd h (by decide)) ?_
    clear hK K
    refine pl [7,8,9,10,11] ?_
    repeat
     refine oM ?_ rfl (fun w1=>?_) ?_
     rotate_left
     ·go_simp;try with_reducible rfl
     simp only[eA,eB,eC,Act.put,eD,eE,eF]
    refine bU ?_
    refine kK (by kernel_rfl) (fun w1 hl=>?_) _
    have hBw2:=hBw.trans (hl.mono hBw.size)
    have hX2:=hX.kept hl
    clear hl hX hBw HF
    go_wp2
    go_ret
    have e1:cu sets l=(j,sets):=by unfold cu;rw[hj]
    refine⟨by rw[e1];rfl,kv,B.sv,?_,⟨hBw2.os,hBw2.tape,hBw2.output,hBw2.size,fun b hb _ _ _ _ _=>hBw2.block b hb,fun g h=>.inl h,fun g h=>.inl h⟩⟩
    rw[e1]
    exact hX2.more hBw2.size HO.out
 | none =>
  rw[hj] at hidx
  go_enter Tryz.func201,Tryz.ntmps201
  go_wp2_with (go_at_call 238;go_must (refine HN.out.mono ?_;rintro e w2 ⟨rfl,hB2,hs2,hb2⟩;have HB2:=ah (And.intro hB2 hb2);clear hB2 hb2))
  clear x1 hs2
  go_loopw [21] (fun i wr=>∃ k:Nat,k≤n∧i=.int .i64 k∧fO wr (w.heap.size+1) w.heap.size B.st (setOf (l.take k))∧Below w.heap.size w wr) (fun i _=>n - (intOf i).toNat)
  case atStart=>exact⟨0,Nat.zero_le _,rfl,HB2.out.1,HB2.out.2⟩
  case round =>
   obtain⟨k,hk,rfl,hBt,hB⟩:=hrel
   by_cases hlt:k<n
   ·have hlk:k<l.length:=by rw[←uK.out];exact hlt
    obtain rfl:=HA.out k hlk
    have c0:=HX.out k hlk wr hB
    have hbl:=World.block_lt_of_cell? wr _ c0
    have hft:=L6 l k hlk
    have hput:=IW (w.heap.size+1) w.heap.size B.st _ l[k] wr hBt (HM.out _ (List.getElem_mem hlk)) hsm
    rw[←hft] at hput
    generalize l[k]=s at *
    have HP:=ah hput
    clear hput hft hBt
    have hkn:(k:Int)<(n:Int):=by omega
    have hk0:(0:Int)≤(k:Int):=by omega
    go_wp2_with (go_at_call 239;go_must (refine HP.out.mono ?_;rintro e w4 ⟨⟨bb,rfl⟩,adk,hO4⟩))
    exact⟨⟨k+1,hlt,by push_cast;rfl,adk,hO4.toBelow hB (Nat.le_refl _)⟩,by simp[intOf];omega⟩
   ·obtain rfl:k=n:=by omega
    rw[uK.out,List.take_length] at hBt
    have HF:Hid (∀ u,Later wr.drew u→jI u qB inn bp mb B kv sets next∧fO u (w.heap.size+1) w.heap.size B.st (setOf l)∧Below w.heap.size w u):=ah fun u hl=>by
     have h1:Below w.heap.size w wr.drew:=hB.trans ((Below.refl wr.heap.size wr).drew.mono hB.size)
     have h2:=h1.trans (hl.mono h1.size)
     exact⟨HH.out.kept h2,⟨hBt.box.drew.kept hl,hBt.words.drew.kept hl,hBt.lt,hBt.ne⟩,h2⟩
    clear hBt hB
    go_wp2_with fail
    refine jq (R:=Later) [6,6] (by kernel_rfl) ?_
    refine pl [0,1,2] ?_
    repeat
     refine oM ?_ rfl (fun w1=>?_) ?_
     rotate_left
     ·go_simp;try with_reducible rfl
     simp only[eA,eB,eC,Act.put,eD,eE,eF]
    refine bU ?_
    refine AY 3 ?_ rfl (fun w1 hl=>?_) ?_
    rotate_left
    ·obtain⟨hX,_,_⟩:=HF.out w1 hl;have y2:w1.cell? ⟨bp,259,none⟩=some (.pointer (some ⟨B.tb,0,none⟩)):=(hX.box.cell 259).trans (uX B);go_simp;try with_reducible rfl
    simp only[eA,eB,eC,Act.put,eD,eE,eF]
    refine Kv 4 ?_ rfl (fun w1=>?_) ?_
    rotate_left
    ·go_simp;try with_reducible rfl
    simp only[eA,eB,eC,Act.put,eD,eE,eF]
    refine clT 5 ?_ ?_ ?_ rfl (fun w1=>?_) (fun w1 hl=>?_) ?_
    rotate_left 4
    ·exact Rk (w.heap.size+1) w.heap.size B.st (setOf l) w1 (by omega) (HF.out w1 hl).2.1
    rotate_left
    ·go_simp
    simp only[eA,eB,eC,Act.put,eD,eE,eF]
    refine dw (T:=[6,6]) (i:=6) (by kernel_rfl) rfl (fun w1 hl K hK=>?_)
    obtain⟨hX,_,hBw⟩:=HF.out w1 hl
    clear hl
    go_simp
    have hbs:=hX.bs
    refine(XR B.tb mb qB kv _ (keyOf B.st l) w1 hX.tab hidx (by rw[List.length_map];exact hsl) hbs).mono ?_
    rintro e w5 ⟨rfl,kv',kR,IX⟩
    refine hK.out _ _ (fun h=>absurd h (by decide)) ?_
    clear hK K
    refine pl [7,8,9,10,11] ?_
    repeat
     refine oM ?_ rfl (fun w1=>?_) ?_
     rotate_left
     ·go_simp;try with_reducible rfl
     simp only[eA,eB,eC,Act.put,eD,eE,eF]
    refine bU ?_
    refine kK (by kernel_rfl) (fun w1 hl=>?_) _
    obtain⟨pz,ahN,hrl,ahO⟩:=HH.out.rows
    have hro:=ahN.kept hBw
    have HRE:=ah ahO
    clear ahO ahN
    obtain⟨hb5,CV⟩:=hX.after IX hro
    have hb6:=hb5.kept hl
    have NU:=CV.kept hl
    have Dv:=kR.kept hl
    have hw6:qB≤w1.heap.size:=by have h1:=IX.size;have h2:=hl.size;omega
    have hk6:∀ b,b<w.heap.size→b≠B.tb→b≠mb→kv.ownBlock≠some b→w1.heap[b]?=w.heap[b]?:=fun b hb h1 h2 h3=>by
     have s1:=hBw.size
     have s2:=IX.size
     exact((hl.block b (by omega)).trans (IX.block b (by omega) h1 h2 h3)).trans (hBw.block b hb)
    have hos:w1.os=w.os∧w1.tape=w.tape∧w1.output=w.output∧w.heap.size≤w1.heap.size:=⟨(hl.os.trans IX.os).trans hBw.os,(hl.tape.trans IX.tape).trans hBw.tape,(hl.output.trans IX.output).trans hBw.output,by have s1:=hBw.size;have s2:=IX.size;have s3:=hl.size;omega⟩
    have hfk:∀ g,kv'.ownBlock=some g→kv.ownBlock=some g∨w.heap.size≤g:=fun g hg=>(IX.fresh g hg).imp id fun h=>by have s1:=hBw.size;omega
    have y4:w1.cell? ⟨bp,260,none⟩=some B.sv:=(hb6.cell 260).trans (ku B)
    have amb:=hX.lt
    have hl6:=hb6.lt
    have hrn:pz.length+1≤1099511627777:=by rw[hrl];omega
    have HB6:=ah hb6;have ER:=ah NU;have HT6:=ah Dv;have SI:=ah hk6;have HOS:=ah hos;have HFK:=ah hfk;have zn:=ah hrl
    clear hb6 NU Dv hk6 hos hfk hrl hb5 CV hro kR IX hl hX hBw HF
    go_wp2_with (at_builtin;go_must (refine eP rfl _ _ 23 rfl GV uG rfl (ER.out.kept (aj _ _)) ⟨w1.heap.size,0,none⟩ 1 (a,k,cap) rfl (dD w1 [.slice a k cap] _) (by simp only[maxLen];omega) (by omega) (by simp only[World.size_alloc];omega) ?_;intro a7 c7 w7 iI dn ug;have hb7:=(HB6.out.alloc (.cells #[.slice a k cap] 24)).grown (ER.out.kept (aj _ _)) dn amb.1;have q1:=(hb7.cell 260).trans (ku B);have f1:=hb7.free 260;have F9:=hb7.lt))
    go_ret
    have e1:cu sets l=(sets.length,sets++[l]):=by unfold cu;rw[hj]
    have X4:Own (w1.alloc (.cells #[.slice a k cap] 24)) qB 24 1 uz B.sv pz:=ER.out.kept (aj _ _)
    have BL:=HT6.out.kept (aj w1 (.cells #[.slice a k cap] 24))
    have s8:(w1.alloc (.cells #[.slice a k cap] 24)).heap.size=w1.heap.size+1:=World.size_alloc _ _
    have sg:=dn.size
    have h0:=HH.out
    have hlt0:=h0.lt
    have htl:=h0.tab.lt
    have hkn:aeN bp B.tb mb kv B.sv kv' (.slice a7 (pz.length+1) c7) w (w7.setCell ⟨bp,260,none⟩ (.slice a7 (pz.length+1) c7)):=by
     obtain⟨o1,o2,o3,o4⟩:=HOS.out
     refine⟨dn.os.trans o1,dn.tape.trans o2,dn.output.trans o3,by rw[World.size_setCell];omega,fun b hb n1 n2 n3 n4 n5=>?_,HFK.out,fun g hg=>?_⟩
     ·rw[heap_setCell_other _ _ b _ n1,dn.block b (by omega) (fun e=>n5 e.symm),(aj w1 (.cells #[.slice a k cap] 24)).block b (by omega)]
      exact SI.out b hb n2 n3 n4
     ·rcases ug with e | e
      ·exact .inl (e▸hg)
      ·rw[e] at hg;cases hg;exact .inr (by omega)
    have qA:∀ b,(inn b∨∃ ad,a=some ad∧ad.block=b)→b<w.heap.size∧b≠bp∧b≠B.tb∧b≠mb∧kv.ownBlock≠some b∧B.sv.ownBlock≠some b∧B.nv.ownBlock≠some b:=by
     rintro b (hb | ⟨ad,ha,rfl⟩)
     ·exact⟨h0.BK b hb,fun e=>h0.rG.1 (e▸hb),fun e=>h0.rG.2.1 (e▸hb),fun e=>h0.rG.2.2 (e▸hb),fun e=>h0.JF b e hb,fun e=>h0.JG b e hb,fun e=>h0.JH b e hb⟩
     ·exact HO.out ad ha
    have hsame:∀ b,(inn b∨∃ ad,a=some ad∧ad.block=b)→b<w.heap.size→(w7.setCell ⟨bp,260,none⟩ (.slice a7 (pz.length+1) c7)).heap[b]?=w.heap[b]?:=fun b hb hlt=>by
     obtain⟨_,m1,m2,m3,m4,m5,_⟩:=qA b hb
     exact hkn.block b hlt m1 m2 m3 m4 m5
    have hLV:dM (w7.setCell ⟨bp,260,none⟩ (.slice a7 (pz.length+1) c7)) (fun b=>inn b∨∃ ad,a=some ad∧ad.block=b) (.slice a k cap) aO l :=
     ⟨HL.out.GU fun ad e hlt=>hsame _ (.inr ⟨ad,e,rfl⟩) hlt,fun ad n' c' e=>.inr ⟨ad,(Value.slice.inj e).1,rfl⟩⟩
    have O1:∀ g,B.nv.ownBlock=some g→(w7.setCell ⟨bp,260,none⟩ (.slice a7 (pz.length+1) c7)).heap[g]?=w.heap[g]?:=fun g hg=>by
     obtain⟨rn,ahQ,_,_⟩:=h0.nexts
     have hgb:=ahQ.blk hg
     refine hkn.block g hgb.2 (by omega) (by omega) (by omega) (fun e=>?_) (fun e=>h0.sn g e hg)
     obtain⟨_,c1,b1⟩:=ahQ.block g hg
     obtain⟨_,c2,b2⟩:=h0.tab.own.block g e
     exact absurd (b1.lM b2) (by decide)
    have hsz:=hkn.size
    refine⟨by rw[e1];rfl,kv',_,?_,hkn⟩
    rw[e1]
    obtain⟨rn,hrn,_,_⟩:=h0.nexts
    have htab:TabAt (w7.setCell ⟨bp,260,none⟩ (.slice a7 (pz.length+1) c7)) B.tb mb qB kv' ((sets++[l]).map (keyOf B.st)):=by
     rw[List.map_append]
     exact⟨(BL.box.grown X4 dn htl.1).other _ _ (fun e=>hlt0.2.1 e.symm),(BL.mp.same (dn.block mb BL.mp.lt fun e=>by have:=(X4.blk e.symm).1;omega)).other _ _ (fun e=>hlt0.2.2 e.symm),(BL.own.lS X4 dn (by decide)).other ⟨bp,260,none⟩ _ hlt0.1,htl⟩
    refine⟨?_,htab,?_,h0.nexts.same (fun b hb hlt=>hsame b (.inl hb) hlt) (fun b hb=>.inl hb) O1,?_,?_,?_,?_,?_,?_,?_,hlt0,h0.small,by rw[World.size_setCell];omega⟩
    ·have:=hb7.set 260 (.slice a7 (pz.length+1) c7)
     rwa[U4] at this
    ·refine pK.snoc (rows:=pz) (x:=(a,k,cap)) (iI.other _ _ hlt0.1) zn.out (fun i p q=>?_) (l:=l) (a:=a) (c:=cap) (by rw[uK.out]) (by rw[←uK.out];exact hLV)
     obtain⟨ad,c',m1,m2⟩:=HRE.out i p q
     exact⟨ad,c',m1,m2.same (fun b hb hlt=>hsame b (.inl hb) hlt) (fun b hb=>.inl hb)⟩
    ·intro x hx
     rcases List.mem_append.1 hx with hx | hx
     ·exact h0.BJ x hx
     ·rw[List.mem_singleton] at hx;subst hx;exact HS.out
    ·intro b hb
     have:=(qA b hb).1;omega
    ·exact⟨fun hb=>(qA _ hb).2.1 rfl,fun hb=>(qA _ hb).2.2.1 rfl,fun hb=>(qA _ hb).2.2.2.1 rfl⟩
    ·intro g hg hb
     rcases hkn.aaB g hg with e | e
     ·exact(qA g hb).2.2.2.2.1 e
     ·have:=(qA g hb).1;omega
    ·intro g hg hb
     rcases hkn.Td g hg with e | e
     ·exact(qA g hb).2.2.2.2.2.1 e
     ·have:=(qA g hb).1;omega
    ·intro g hg hb
     exact(qA g hb).2.2.2.2.2.2 hg
    ·intro g hg hn
     rcases hkn.Td g hg with e | e
     ·exact h0.sn g e hn
     ·have:=(hrn.blk hn).2;omega
end
section
open Go.RowKit
abbrev zo(x:List UInt8×Vt):List UInt8×Tr:=(x.1,x.2.tr)
def AA(L:List (List UInt8×Tr))(i:Nat):Bool:=match L[i]? with
 | none=>true
 | some x=>qE x.1&&!((L.take i).map (·.1)).contains x.1&&iV x.2
def qo(L:List (List UInt8×Tr))(k:Nat):Bool:=(List.range k).all (AA L)
def sJ(L:List (List UInt8×Tr)):Bool:=decide (L.length≤64)&&qo L L.length
theorem Ti(L:List (List UInt8×Tr))(k:Nat):qo L (k+1)=(qo L k&&AA L k):=by
 unfold qo;rw[List.range_succ,List.all_append];simp
theorem PL(L:List (List UInt8×Tr))(k n:Nat)(hk:k<n)(h:AA L k=false):qo L n=false:=by
 unfold qo
 rw[List.all_eq_false]
 exact⟨k,by simpa using hk,by simp[h]⟩
theorem O4(Rs:List (List UInt8×Vt))(k:Nat)(h:k<Rs.length):AA (Rs.map zo) k=(qE Rs[k].1&&!((Rs.take k).map (·.1)).contains Rs[k].1&&iV Rs[k].2.tr):=by
 unfold AA
 rw[List.getElem?_map,List.getElem?_eq_getElem h]
 show(qE Rs[k].1&&!(((Rs.map zo).take k).map (·.1)).contains Rs[k].1&&iV Rs[k].2.tr)=_
 rw[←List.map_take,List.map_map]
 rfl
theorem L8(a:Option Addr)(cap n:Nat)(Rs:List (List UInt8×Vt))(w:World)(h:ak w (.slice a n cap) 9 jc Rs)(hL:∀ i (h:i<Rs.length),Lies w Rs[i].2)(hnm:∀ x∈Rs,x.1.length≤9223372036854775807) :
  Calls Tryz.prog 64 #[.slice a n cap] w (aY w (.bool (sJ (Rs.map zo)))):=by
 obtain⟨b,o,hn,hcap,hcap2,ha,hx⟩:=h.open
 have hmm:=@run_makeMap Tryz.prog
 have hz:=OO
 have hans:sJ (Rs.map zo)=(decide (n≤64)&&qo (Rs.map zo) n):=by unfold sJ;rw[List.length_map,hn]
 rw[hans]
 by_cases h64:64<n
 ·have e1:decide (n≤64)=false:=by simp;omega
  rw[e1]
  have alZ:(64:Int)<(n:Int):=by omega
  clear hn hcap hx ha h hL hnm hans e1 h64
  go_enter Tryz.func64,Tryz.ntmps64
  go_wp2
  go_ret
  exact⟨rfl,Below.refl _ _⟩
 ·have e1:decide (n≤64)=true:=by simp;omega
  rw[e1,Bool.true_and]
  have al0:decide ((64:Int)<(n:Int))=false:=by simp;omega
  have HX:=ah hx
  have HA:=ah ha
  have HN:=ah hn
  have HL:=ah hL
  have uS:=ah hnm
  have rD:n≤64:=by omega
  have hm0:=aJ.new w (fun s:List UInt8=>sv s)
  have hb0:=aj w (.map #[] 0)
  obtain⟨ANS,hA⟩:∃ ANS,qo (Rs.map zo) n=ANS:=⟨_,rfl⟩
  rw[hA]
  have lq:=ah hA
  clear hx ha hn hL hnm h hans hA e1 h64
  go_enter Tryz.func64,Tryz.ntmps64
  go_wp2
  go_loopw [12] (fun i wr=>∃ k:Nat,k≤n∧i=.int .i64 k∧qo (Rs.map zo) k=true∧aJ wr w.heap.size (fun s:List UInt8=>sv s) (vP (Rs.take k))∧Below w.heap.size w wr) (fun i _=>n - (intOf i).toNat)
  case atStart=>exact⟨0,Nat.zero_le _,rfl,rfl,hm0,hb0⟩
  case round =>
   clear hm0 hb0
   obtain⟨k,hk,rfl,hok,hM,hB⟩:=hrel
   by_cases hlt:k<n
   ·have hk2:k<Rs.length:=by rw[←HN.out];exact hlt
    obtain rfl:=HA.out k hk2
    have hy:∀ j u,(jc Rs[k])[j]?=some u→wr.cell? ⟨b,o+k*9+j,none⟩=some u:=fun j u hu=>by
     have:=HX.out k hk2 j u hu
     rw[hB.cell (World.block_lt_of_cell? w _ this)];exact this
    have hsucc:=Ti (Rs.map zo) k
    rw[hok,Bool.true_and,O4 Rs k hk2] at hsucc
    have hfalse:=fun(hf:AA (Rs.map zo) k=false)=>PL (Rs.map zo) k n hlt hf
    rw[O4 Rs k hk2] at hfalse
    have htk:Rs.take (k+1)=Rs.take k++[Rs[k]]:=List.take_succ_eq_append_getElem hk2
    have zW:=HL.out k hk2
    have hnn:=uS.out _ (List.getElem_mem hk2)
    have Bh:=ah htk
    clear htk
    generalize Rs[k]=x at *
    obtain⟨nm,⟨k5,s5,a5,cp5,bY,bZ,hi5⟩⟩:=x
    have y0:=hy 0 _ rfl
    have y1:=hy 1 _ rfl
    have y2:=hy 2 _ rfl
    have y3:=hy 3 _ rfl
    have y4:=hy 4 _ rfl
    have y5:=hy 5 _ rfl
    have y6:=hy 6 _ rfl
    have y7:=hy 7 _ rfl
    have y8:=hy 8 _ rfl
    have hbl:=World.block_lt_of_cell? wr _ y0
    simp only[Nat.add_zero] at y0
    have hki:(k:Int)<(n:Int):=by omega
    have hk0:(0:Int)≤(k:Int):=by omega
    have HLW:=ah zW
    have hname:=fun u=>Oy nm u hnn
    have hlook:=Ar nm (Rs.take k)
    have hbx:Box (wr.alloc (.cells (jc (nm,.mk k5 s5 a5 cp5 bY bZ hi5)).toArray 117)) wr.heap.size #[sv nm,.int .i64 k5,.int .u64 (word s5 0:Nat),.int .u64 (word s5 1:Nat),.int .u64 (word s5 2:Nat),.int .u64 (word s5 3:Nat),.slice a5 bY.length cp5,.int .i64 bZ,.int .i64 hi5] 117:=Box.new wr _ _
    clear hy hnn zW
    generalize hcc:((Rs.take k).map (·.1)).contains nm=q at *
    dsimp only at hsucc hfalse
    have EL:=ah hsucc
    have Au:=ah hfalse
    have oZ:=ah hname
    have L9:=ah hlook
    clear hsucc hfalse hname hlook
    have hB1:=hB.trans ((aj wr (.cells (jc (nm,.mk k5 s5 a5 cp5 bY bZ hi5)).toArray 117)).mono hB.size)
    have hM:=hM
    cases hn:qE nm with
    | false =>
     rw[hn] at oZ Au
     have hans:ANS=false:=by rw[←lq.out];exact Au.out rfl
     subst hans
     clear hn
     go_wp2_with (go_at_call 42;go_must (refine(oZ.out _).mono ?_;rintro e w2 ⟨rfl,hb2⟩;have hx2:=hbx.kept hb2;have hM2:=(hM.alloc (.cells (jc (nm,.mk k5 s5 a5 cp5 bY bZ hi5)).toArray 117)).kept hb2;have hlk:=lF hM2 mQ Tryz.underlying101 (hz w2) nm;rw[L9.out] at hlk;have hB2:=hB1.trans (hb2.mono hB1.size);have z0:w2.cell? ⟨wr.heap.size,0,none⟩=some (sv nm):=hx2.cell 0;have z1:w2.cell? ⟨wr.heap.size,1,none⟩=some (.int .i64 k5):=hx2.cell 1;have z2:w2.cell? ⟨wr.heap.size,2,none⟩=some (.int .u64 (word s5 0:Nat)):=hx2.cell 2;have z3:w2.cell? ⟨wr.heap.size,3,none⟩=some (.int .u64 (word s5 1:Nat)):=hx2.cell 3;have z4:w2.cell? ⟨wr.heap.size,4,none⟩=some (.int .u64 (word s5 2:Nat)):=hx2.cell 4;have z5:w2.cell? ⟨wr.heap.size,5,none⟩=some (.int .u64 (word s5 3:Nat)):=hx2.cell 5;have z6:w2.cell? ⟨wr.heap.size,6,none⟩=some (.slice a5 bY.length cp5):=hx2.cell 6;have z7:w2.cell? ⟨wr.heap.size,7,none⟩=some (.int .i64 bZ):=hx2.cell 7;have z8:w2.cell? ⟨wr.heap.size,8,none⟩=some (.int .i64 hi5):=hx2.cell 8))
     go_ret
     exact⟨rfl,hB2⟩
    | true =>
     rw[hn] at oZ Au EL
     cases q with
     | true =>
      have hans:ANS=false:=by rw[←lq.out];exact Au.out rfl
      subst hans
      clear hn
      go_wp2_with (go_at_call 42;go_must (refine(oZ.out _).mono ?_;rintro e w2 ⟨rfl,hb2⟩;have hx2:=hbx.kept hb2;have hM2:=(hM.alloc (.cells (jc (nm,.mk k5 s5 a5 cp5 bY bZ hi5)).toArray 117)).kept hb2;have hlk:=lF hM2 mQ Tryz.underlying101 (hz w2) nm;rw[L9.out] at hlk;have hB2:=hB1.trans (hb2.mono hB1.size);have z0:w2.cell? ⟨wr.heap.size,0,none⟩=some (sv nm):=hx2.cell 0;have z1:w2.cell? ⟨wr.heap.size,1,none⟩=some (.int .i64 k5):=hx2.cell 1;have z2:w2.cell? ⟨wr.heap.size,2,none⟩=some (.int .u64 (word s5 0:Nat)):=hx2.cell 2;have z3:w2.cell? ⟨wr.heap.size,3,none⟩=some (.int .u64 (word s5 1:Nat)):=hx2.cell 3;have z4:w2.cell? ⟨wr.heap.size,4,none⟩=some (.int .u64 (word s5 2:Nat)):=hx2.cell 4;have z5:w2.cell? ⟨wr.heap.size,5,none⟩=some (.int .u64 (word s5 3:Nat)):=hx2.cell 5;have z6:w2.cell? ⟨wr.heap.size,6,none⟩=some (.slice a5 bY.length cp5):=hx2.cell 6;have z7:w2.cell? ⟨wr.heap.size,7,none⟩=some (.int .i64 bZ):=hx2.cell 7;have z8:w2.cell? ⟨wr.heap.size,8,none⟩=some (.int .i64 hi5):=hx2.cell 8))
      go_ret
      exact⟨rfl,hB2⟩
     | false =>
      cases hr:iV (Vt.mk k5 s5 a5 cp5 bY bZ hi5).tr with
      | false =>
       have hans:ANS=false:=by rw[←lq.out];exact Au.out (by rw[hr];rfl)
       subst hans
       have HRR:=ah hr
       clear hn hr
       go_wp2_with (first | (go_at_call 42;go_must (refine(oZ.out _).mono ?_;rintro e w2 ⟨rfl,hb2⟩;have hx2:=hbx.kept hb2;have hM2:=(hM.alloc (.cells (jc (nm,.mk k5 s5 a5 cp5 bY bZ hi5)).toArray 117)).kept hb2;have hlk:=lF hM2 mQ Tryz.underlying101 (hz w2) nm;rw[L9.out] at hlk;have hB2:=hB1.trans (hb2.mono hB1.size);have z0:w2.cell? ⟨wr.heap.size,0,none⟩=some (sv nm):=hx2.cell 0;have z1:w2.cell? ⟨wr.heap.size,1,none⟩=some (.int .i64 k5):=hx2.cell 1;have z2:w2.cell? ⟨wr.heap.size,2,none⟩=some (.int .u64 (word s5 0:Nat)):=hx2.cell 2;have z3:w2.cell? ⟨wr.heap.size,3,none⟩=some (.int .u64 (word s5 1:Nat)):=hx2.cell 3;have z4:w2.cell? ⟨wr.heap.size,4,none⟩=some (.int .u64 (word s5 2:Nat)):=hx2.cell 4;have z5:w2.cell? ⟨wr.heap.size,5,none⟩=some (.int .u64 (word s5 3:Nat)):=hx2.cell 5;have z6:w2.cell? ⟨wr.heap.size,6,none⟩=some (.slice a5 bY.length cp5):=hx2.cell 6;have z7:w2.cell? ⟨wr.heap.size,7,none⟩=some (.int .i64 bZ):=hx2.cell 7;have z8:w2.cell? ⟨wr.heap.size,8,none⟩=some (.int .i64 hi5):=hx2.cell 8)) | (go_at_call 101;go_must (refine(Ea (.mk k5 s5 a5 cp5 bY bZ hi5) _ (HLW.out.kept hB2)).mono ?_;rintro e w3 ⟨rfl,hb3⟩;have hB3:=hB2.trans (hb3.mono hB2.size);rw[HRR.out])))
       go_ret
       exact⟨rfl,hB3⟩
      | true =>
       have hsu:=EL.out
       rw[hr] at hsu
       have II:=ah hsu
       have HRR:=ah hr
       clear hn hr hsu
       go_wp2_with (first | (go_at_call 42;go_must (refine(oZ.out _).mono ?_;rintro e w2 ⟨rfl,hb2⟩;have hx2:=hbx.kept hb2;have hM2:=(hM.alloc (.cells (jc (nm,.mk k5 s5 a5 cp5 bY bZ hi5)).toArray 117)).kept hb2;have hlk:=lF hM2 mQ Tryz.underlying101 (hz w2) nm;rw[L9.out] at hlk;have hB2:=hB1.trans (hb2.mono hB1.size);have z0:w2.cell? ⟨wr.heap.size,0,none⟩=some (sv nm):=hx2.cell 0;have z1:w2.cell? ⟨wr.heap.size,1,none⟩=some (.int .i64 k5):=hx2.cell 1;have z2:w2.cell? ⟨wr.heap.size,2,none⟩=some (.int .u64 (word s5 0:Nat)):=hx2.cell 2;have z3:w2.cell? ⟨wr.heap.size,3,none⟩=some (.int .u64 (word s5 1:Nat)):=hx2.cell 3;have z4:w2.cell? ⟨wr.heap.size,4,none⟩=some (.int .u64 (word s5 2:Nat)):=hx2.cell 4;have z5:w2.cell? ⟨wr.heap.size,5,none⟩=some (.int .u64 (word s5 3:Nat)):=hx2.cell 5;have z6:w2.cell? ⟨wr.heap.size,6,none⟩=some (.slice a5 bY.length cp5):=hx2.cell 6;have z7:w2.cell? ⟨wr.heap.size,7,none⟩=some (.int .i64 bZ):=hx2.cell 7;have z8:w2.cell? ⟨wr.heap.size,8,none⟩=some (.int .i64 hi5):=hx2.cell 8)) | (go_at_call 101;go_must (refine(Ea (.mk k5 s5 a5 cp5 bY bZ hi5) _ (HLW.out.kept hB2)).mono ?_;rintro e w3 ⟨rfl,hb3⟩;have hB3:=hB2.trans (hb3.mono hB2.size);rw[HRR.out];have hx3:=hx2.kept hb3;have x0:w3.cell? ⟨wr.heap.size,0,none⟩=some (sv nm):=hx3.cell 0;obtain⟨w4,hput,hm4,sU,CG,CP⟩:=(hM2.kept hb3).rX mQ Tryz.underlying101 nm (.bool true))))
       have hB4:=hB3.trans (CP w.heap.size (Nat.le_refl _))
       have hm5:aJ w4 w.heap.size (fun s:List UInt8=>sv s) (vP (Rs.take (k+1))):=by
        rw[kT] at hm4
        ·rw[Bh.out,vP,List.map_append];exact hm4
        ·cases hlk2:look nm (vP (Rs.take k)) with
         | none=>rfl
         | some z =>
          obtain⟨p,hp,hpe⟩:=Ei hlk2
          rw[vP,List.mem_map] at hp
          obtain⟨q,_,rfl⟩:=hp
          have h9:=L9.out
          rw[hlk2] at h9
          cases hpe
          cases h9
       refine⟨⟨k+1,hlt,by push_cast;rfl,II.out,hm5,hB4⟩,by simp[intOf];omega⟩
   ·obtain rfl:k=n:=by omega
    have hans:ANS=true:=by rw[←lq.out];exact hok
    subst hans
    clear hM
    go_wp2
    go_ret
    exact⟨rfl,hB⟩
end
section
open Go.RowKit
structure Y3 where
 l:Value
 e:Value
 a:Value
def Y3.has(V:Y3)(b:Nat):Prop:=V.l.ownBlock=some b∨V.e.ownBlock=some b∨V.a.ownBlock=some b
def Mc(x:Nat×Nat):List Value:=[.int .i64 x.1,.int .i64 x.2]
def fU(x:Nat×au×Nat):List Value:=[.int .i64 x.1,.int .u64 (word x.2.1 0:Nat),.int .u64 (word x.2.1 1:Nat),.int .u64 (word x.2.1 2:Nat),.int .u64 (word x.2.1 3:Nat),.int .i64 x.2.2]
theorem Tj:fB Mc 2:=⟨fun _=>rfl,fun x u hu=>by simp[Mc] at hu;rcases hu with rfl | rfl <;> rfl⟩
theorem xJ:fB fU 6:=⟨fun _=>rfl,fun x u hu=>by simp[fU] at hu;rcases hu with rfl | rfl | rfl | rfl | rfl | rfl <;> rfl⟩
theorem aaD:dQ Tryz.prog 118 233 (.agg #[.int .i64 0,.int .i64 0]) 2 16:=⟨Tryz.underlying118,info_parts (by kernel_rfl),rfl,by decide⟩
theorem O5:dQ Tryz.prog 119 240 (.agg #[.int .i64 0,.int .u64 0,.int .u64 0,.int .u64 0,.int .u64 0,.int .i64 0]) 6 48:=⟨Tryz.underlying119,info_parts (by kernel_rfl),rfl,by decide⟩
structure gB(w:World)(r qB:Nat)(N:Nf)(V:Y3):Prop where
 box:Box w r #[.int .i64 N.states,.int .i64 0,V.l,V.e,V.a] 177
 li:Own w qB 233 2 Mc V.l N.links
 ed:Own w qB 240 6 fU V.e N.edges
 ac:Own w qB 3 1 aO V.a N.accept
 lt:r<qB
 st:N.states=N.accept.length
theorem gB.kept{w w':World}{r qB:Nat}{N:Nf}{V:Y3}(h:gB w r qB N V)(hb:Below w.heap.size w w'):gB w' r qB N V :=
 ⟨h.box.kept hb,h.li.kept hb,h.ed.kept hb,h.ac.kept hb,h.lt,h.st⟩
theorem gB.hasLt{w:World}{r qB:Nat}{N:Nf}{V:Y3}(h:gB w r qB N V)(g:Nat)(hg:V.has g):qB≤g∧g<w.heap.size:=by
 rcases hg with hg | hg | hg
 ·exact h.li.lQ g hg
 ·exact h.ed.lQ g hg
 ·exact h.ac.lQ g hg
structure Turned(r:Nat)(V V':Y3)(w w':World):Prop where
 os:w'.os=w.os
 tape:w'.tape=w.tape
 output:w'.output=w.output
 size:w.heap.size≤w'.heap.size
 block:∀ b,b<w.heap.size→b≠r→¬ V.has b→w'.heap[b]?=w.heap[b]?
 new:∀ g,V'.has g→V.has g∨w.heap.size≤g
theorem Turned.below{r:Nat}{V:Y3}{w w':World}(h:Below w.heap.size w w'):Turned r V V w w':=⟨h.os,h.tape,h.output,h.size,fun b hb _ _=>h.block b hb,fun _ hg=>.inl hg⟩
theorem Turned.trans{r:Nat}{V V1 V2:Y3}{a b c:World}(h:Turned r V V1 a b)(k:Turned r V1 V2 b c):Turned r V V2 a c :=
 ⟨k.os.trans h.os,k.tape.trans h.tape,k.output.trans h.output,Nat.le_trans h.size k.size,fun x hx hr hg=>(k.block x (Nat.lt_of_lt_of_le hx h.size) hr fun e=>by
  rcases h.new x e with h1 | h1
  ·exact hg h1
  ·omega).trans (h.block x hx hr hg),fun g hg=>by
  rcases k.new g hg with h1 | h1
  ·exact h.new g h1
  ·exact .inr (Nat.le_trans h.size h1)⟩
theorem Turned.box{r:Nat}{V V':Y3}{w w':World}{b:Nat}{c:Array Value}{E:TypeId}(h:Turned r V V' w w')(hx:Box w b c E)(hr:b≠r)(hv:¬ V.has b):Box w' b c E:=(h.block b hx.lt hr hv).trans hx
def Qg(r qB:Nat)(V:Y3)(N:Nf)(w:World)(u:Value)(e:Ending)(w':World):Prop:=e=.returned u∧∃ V',gB w' r qB N V'∧Turned r V V' w w'
section
variable {w w1 w':World} {r qB:Nat} {N:Nf} {V:Y3}
theorem gB.acc(h:gB w1 r qB N V){k:Nat}{a':Option Addr}{cap':Nat}(ho:Own w' qB 3 1 aO (.slice a' (N.accept.length+1) cap') (N.accept++[k]))(hg:w1.grownBy w' V.a.ownBlock) :
  gB ((w'.setCell ⟨r,4,none⟩ (.slice a' (N.accept.length+1) cap')).setCell ⟨r,0,none⟩ (.int .i64 ((N.states:Int)+1))) r qB (N.state k) ⟨V.l,V.e,.slice a' (N.accept.length+1) cap'⟩:=by
 have hb:=(h.box.grown h.ac hg h.lt)
 refine⟨((hb.set 4 _).set 0 _),?_,?_,?_,h.lt,?_⟩
 ·exact((h.li.lS h.ac hg (by decide)).other _ _ h.lt).other _ _ h.lt
 ·exact((h.ed.lS h.ac hg (by decide)).other _ _ h.lt).other _ _ h.lt
 ·exact(ho.other _ _ h.lt).other _ _ h.lt
 ·show N.states+1=(N.accept++[k]).length
  rw[List.length_append,h.st];rfl
theorem gB.lnk(h:gB w1 r qB N V){x:Nat×Nat}{a':Option Addr}{cap':Nat}(ho:Own w' qB 233 2 Mc (.slice a' (N.links.length+1) cap') (N.links++[x]))(hg:w1.grownBy w' V.l.ownBlock) :
  gB (w'.setCell ⟨r,2,none⟩ (.slice a' (N.links.length+1) cap')) r qB (N.link x.1 x.2) ⟨.slice a' (N.links.length+1) cap',V.e,V.a⟩:=by
 have hb:=(h.box.grown h.li hg h.lt)
 refine⟨hb.set 2 _,ho.other _ _ h.lt,?_,?_,h.lt,h.st⟩
 ·exact(h.ed.lS h.li hg (by decide)).other _ _ h.lt
 ·exact(h.ac.lS h.li hg (by decide)).other _ _ h.lt
theorem Turned.grown{V V':Y3}(v v':Value)(hv:∀ g,v.ownBlock=some g→V.has g)(hg:w.grownBy w' v.ownBlock)(hf:v'.ownBlock=v.ownBlock∨v'.ownBlock=some w.heap.size)(hn:∀ g,V'.has g→V.has g∨v'.ownBlock=some g):Turned r V V' w w' :=
 ⟨hg.os,hg.tape,hg.output,hg.size,fun b hb _ h2=>hg.block b hb fun e=>h2 (hv b e.symm),fun g e=>by
  rcases hn g e with h1 | h1
  ·exact .inl h1
  ·rcases hf with hf | hf
   ·exact .inl (hv g (hf▸h1))
   ·rw[hf] at h1;cases h1;exact .inr (Nat.le_refl _)⟩
theorem Turned.set{V V':Y3}(h:Turned r V V' w w')(i:Nat)(u:Value):Turned r V V' w (w'.setCell ⟨r,i,none⟩ u) :=
 ⟨h.os,h.tape,h.output,(by rw[World.size_setCell];exact h.size),fun b hb h1 h2=>(heap_setCell_other w' ⟨r,i,none⟩ b u h1).trans (h.block b hb h1 h2),h.new⟩
end
theorem rH(r qB k:Nat)(N:Nf)(V:Y3)(w:World)(h:gB w r qB N V)(hb:qB≤w.heap.size)(hN:N.accept.length≤1099511627776) :
  Calls Tryz.prog 105 #[.pointer (some ⟨r,0,none⟩),.int .i64 k] w (Qg r qB V (N.state k) w (.int .i64 N.states)):=by
 have hB0:=aj w (.cells #[.int .i64 k] 3)
 have h0:=h.kept hB0
 have hx0:=h0.box
 have z4:(w.alloc (.cells #[.int .i64 k] 3)).cell? ⟨r,4,none⟩=some V.a:=hx0.cell 4
 have y4:w.cell? ⟨r,4,none⟩=some V.a:=h.box.cell 4
 have hrl:=h.box.lt
 obtain⟨aa,ca,hva⟩:=h.ac.form
 have hst:=h.st
 have ap4:N.states≤1099511627776:=by rw[hst];exact hN
 have H0:=ah h0
 rw[hva] at z4 y4
 have HV:=ah hva
 have Tm:=h0.ac
 rw[hva] at Tm
 clear h h0 hst hx0
 go_enter Tryz.func105,Tryz.ntmps105
 go_wp2_with (at_builtin;go_must (refine eP rfl _ _ 24 rfl F8 dN rfl Tm ⟨w.heap.size,0,none⟩ 1 k rfl (dD w [.int .i64 k] _) (by simp[maxLen];omega) (by omega) (by simp;omega) ?_;intro a7 c7 w7 iI dn ug;have ES:(w.alloc (.cells #[.int .i64 k] 3)).grownBy w7 V.a.ownBlock:=(by rw[HV.out];exact dn);have hx7:=H0.out.box.grown H0.out.ac ES H0.out.lt;have z7:w7.cell? ⟨r,4,none⟩=some V.a:=hx7.cell 4;have z8:w7.cell? ⟨r,0,none⟩=some (.int .i64 N.states):=hx7.cell 0;have f7:=hx7.free 4;have f8:=hx7.free 0;have l7:=hx7.lt))
 go_ret
 refine⟨rfl,_,H0.out.acc iI ES,?_⟩
 refine(((Turned.below hB0).trans (Turned.grown V.a (.slice a7 (N.accept.length+1) c7) (fun g hg=>.inr (.inr hg)) ES (by rw[HV.out];exact ug) ?_)).set 4 _).set 0 _
 rintro g (hg | hg | hg)
 ·exact .inl (.inl hg)
 ·exact .inl (.inr (.inl hg))
 ·exact .inr hg
end
section
open Go.RowKit
structure yV(w:World)(h n:Nat)(st:Nat×List Nat):Prop where
 bq:Box w (h+2) #[.pointer (some ⟨h+1,0,none⟩)] 315
 bits:fO w (h+1) h n st.1
 wq:∃ a cap,Box w (h+3) #[.slice a st.2.length cap] 24∧jB w (h+4) 3 (.slice a st.2.length cap) st.2
 size:h+4≤w.heap.size
theorem yV.kept{w w':World}{h n:Nat}{st:Nat×List Nat}(H:yV w h n st)(hb:Below w.heap.size w w'):yV w' h n st:=by
 obtain⟨a,cap,h1,h2⟩:=H.wq
 exact⟨H.bq.kept hb,H.bits.kept hb,⟨a,cap,h1.kept hb,h2.kept hb⟩,Nat.le_trans H.size hb.size⟩
def wordAt(w:World)(g k:Nat):Nat:=match w.cell? ⟨g,k,none⟩ with | some (.int _ x)=>x.toNat | _=>0
def X5(w:World)(b:Nat):Nat:=match w.cell? ⟨b,0,none⟩ with | some (.slice _ n _)=>n | _=>0
def X6(w:World)(h n:Nat):Nat:=X5 w (h+3)+((List.range n).filter fun i=>!(wordAt w h (i / 64)).testBit (i % 64)).length
theorem yV.pot{w:World}{h n:Nat}{st:Nat×List Nat}(H:yV w h n st):X6 w h n=st.2.length+lacks n st.1:=by
 obtain⟨a,cap,h1,_⟩:=H.wq
 unfold X6
 have e1:X5 w (h+3)=st.2.length:=by
  unfold X5
  rw[show w.cell? ⟨h+3,0,none⟩=some (.slice a st.2.length cap) from h1.cell 0]
 rw[e1]
 congr 1
 unfold lacks
 congr 1
 refine List.filter_congr fun i hi=>?_
 rw[List.mem_range] at hi
 have e2:wordAt w h (i / 64)=dU st.1 (i / 64):=by
  unfold wordAt
  rw[show w.cell? ⟨h,i / 64,none⟩=some (.int .u64 (dU st.1 (i / 64):Nat)) from(H.bits.words.cell _).trans (o8 _ _ _ (by unfold cO;omega))]
  simp
 rw[e2,uI,decide_eq_true (Nat.mod_lt _ (by decide)),Bool.true_and,show 64*(i / 64)+i % 64=i by omega]
theorem ig.ahR{g B:Nat}{w w':World}(h:ig g w w')(hg:B≤g)(hs:B≤w.heap.size):Below B w w':=⟨h.os,h.tape,h.output,h.size,fun b hb=>h.block b (by omega) (by omega)⟩
def ahS(h n:Nat)(st:Nat×List Nat)(v:Value)(w:World)(e:Ending)(w':World):Prop:=e=.returned v∧yV w' h n st∧Below h w w'
theorem VU(h n s:Nat)(st:Nat×List Nat)(w:World)(H:yV w h n st)(hs:s≤1099511627776)(hl:st.2.length≤1048576) :
  Calls Tryz.prog 261 #[.int .i64 s,.pointer (some ⟨h+2,0,none⟩),.pointer (some ⟨h+3,0,none⟩)] w (ahS h n (jA n st s) (.tuple #[]) w):=by
 have hp:=QM (h+1) h n st.1 s w H.bits hs
 have x0:w.cell? ⟨h+2,0,none⟩=some (.pointer (some ⟨h+1,0,none⟩)):=H.bq.cell 0
 obtain⟨a,cap,hb,ho⟩:=H.wq
 have hsz:=H.size
 by_cases hin:s<n∧st.1.testBit s=false
 ·have hpw:jA n st s=(st.1 ||| 1 <<< s,st.2++[s]):=by unfold jA;rw[if_pos hin]
  rw[hpw]
  have HP:Hid (∀ (R:Ending→World→Prop),(∀ w2,fO w2 (h+1) h n (st.1 ||| 1 <<< s)→ig h w w2→R (.returned (.bool true)) w2)→Calls Tryz.prog 239 #[.pointer (some ⟨h+1,0,none⟩),.int .i64 s] w R):=ah fun R hR=>hp.mono fun e w2 h2=>by
   unfold ou at h2
   rw[if_pos hin] at h2
   obtain⟨rfl,h3,h4⟩:=h2
   exact hR w2 h3 h4
  have HH:=ah H;have HB:=ah hb;have HO:=ah ho
  clear hp H hb ho hpw
  obtain⟨S,ws⟩:=st
  dsimp only at *
  go_enter Tryz.func261,Tryz.ntmps261
  go_wp2_with (first | (go_at_call 239;go_must (refine HP.out _ ?_;intro w2 hB2 hg2;have hbx2:=hg2.box HB.out (by omega);have ho2:=HO.out.same (w':=w2) (fun b hb1 hb2=>hg2.block b hb2 (by omega));have hs2:=hg2.size;have z0:=hbx2.cell 0;have f0:=hbx2.free 0;have l0:=hbx2.lt)) | (at_builtin;go_must (refine NC rfl _ _ 24 rfl jg rfl (ho2.kept (aj _ _)) (by simp only[World.size_alloc];omega) ⟨w2.heap.size,0,none⟩ 1 s rfl ((Box.new w2 _ _).cell 0) (by omega) ?_;intro a7 c7 w7 iI dn;have ho3:=ho2.kept (aj w2 (.cells #[.int .i64 s] 3));have vW:=ho3.box (hbx2.alloc (.cells #[.int .i64 s] 3)) dn (by omega);have z7:=vW.cell 0;have f7:=vW.free 0;have l7:=vW.lt))
  )
  go_end0
  have hB3:=hB2.kept (aj w2 (.cells #[.int .i64 s] 3))
  have hq3:=(hg2.box HH.out.bq (by omega)).kept (aj w2 (.cells #[.int .i64 s] 3))
  have amc:=dn.size
  simp only[World.size_alloc] at amc
  refine⟨rfl,⟨(ho3.box hq3 dn (by omega)).other _ _ (by simp),⟨(ho3.box hB3.box dn (by omega)).other _ _ (by simp),(ho3.box hB3.words dn (by omega)).other _ _ (by simp),hB3.lt,hB3.ne⟩,⟨a7,c7,?_,?_⟩,?_⟩,?_⟩
  ·rw[List.length_append,List.length_singleton];exact vW.set 0 _
  ·rw[List.length_append,List.length_singleton];exact iI.other _ _ (by simp)
  ·rw[World.size_setCell];omega
  ·exact(((hg2.ahR (Nat.le_refl _) (by omega)).trans ((aj w2 (.cells #[.int .i64 s] 3)).mono (by omega))).grown dn (by simp only[World.size_alloc];omega) (fun k e=>by have:=(ho3.row k e).1;omega)).setCell (by simp) _
 ·have hpw:jA n st s=st:=by unfold jA;rw[if_neg hin]
  rw[hpw]
  have HP:Hid (Calls Tryz.prog 239 #[.pointer (some ⟨h+1,0,none⟩),.int .i64 s] w fun e w2=>e=.returned (.bool false)∧w2=w):=ah (hp.mono fun e w2 h2=>by
   unfold ou at h2
   rwa[if_neg hin] at h2)
  have HH:=ah H
  clear hp H hb ho hpw
  go_enter Tryz.func261,Tryz.ntmps261
  go_wp2_with (go_at_call 239;go_must (refine HP.out.mono ?_;rintro e w2 ⟨rfl,rfl⟩))
  go_end0
  exact⟨rfl,HH.out,Below.refl _ _⟩
end
end Go.Proofs.YtengfapcaaacaaaGreatDoor
