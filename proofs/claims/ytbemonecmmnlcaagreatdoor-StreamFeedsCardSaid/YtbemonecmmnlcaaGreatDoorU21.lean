/- The texts of T21, in few letters (mini.py). -/
import Derived.Test.YtbemonecmmnlcaaGreatDoorU20
import Derived.Test.YtbemonecmmnlcaaGreatDoorU15
set_option linter.unusedVariables false
set_option linter.unusedSimpArgs false
set_option maxRecDepth 20000
set_option maxHeartbeats 3200000
namespace Go.Proofs.YtbemonecmmnlcaaGreatDoor
section
open Go.RowKit
theorem Gp:eu Tryz.prog 23 24 (.slice none 0 0) 1 24:=⟨Tryz.underlying23,info_parts (by kernel_rfl),rfl,by decide⟩
structure jH(w:World)(base:Nat)(inn:Nat→Prop)(bp mb:Nat)(B:jo)(kv:Value)(sets:List (List Nat))(next:List (List Int)):Prop where
 box:Box w bp (dJ B) 226
 tab:TabAt w B.tb mb base kv (sets.map (keyOf B.st))
 rows:pY w base 24 inn aG B.sv sets
 nexts:pY w base 24 inn encI B.nv next
 BI:∀ x∈sets,yj B.st x
 BJ:∀ b,inn b→b<w.heap.size
 rQ:¬ inn bp∧¬ inn B.tb∧¬ inn mb
 JZ:∀ g,kv.ownBlock=some g→¬ inn g
 J3:∀ g,B.sv.ownBlock=some g→¬ inn g
 J4:∀ g,B.nv.ownBlock=some g→¬ inn g
 sn:∀ g,B.sv.ownBlock=some g→B.nv.ownBlock≠some g
 lt:bp<base∧bp≠B.tb∧bp≠mb
 small:B.st≤65536
 bs:base≤w.heap.size
section
variable {w w':World} {base:Nat} {inn:Nat→Prop} {bp mb:Nat} {B:jo} {kv:Value} {sets:List (List Nat)} {next:List (List Int)}
theorem pY.kept{α:Type}{E:Nat}{enc:α→List Value}{v:Value}{L:List (List α)}(h:pY w base E inn enc v L)(hb:Below w.heap.size w w'):pY w' base E inn enc v L:=by
 obtain⟨rows,h1,h2,h3⟩:=h
 exact⟨rows,h1.kept hb,h2,fun i a b=>by obtain⟨x,c,e,k⟩:=h3 i a b;exact⟨x,c,e,k.same (fun b _ hlt=>hb.block b hlt) (fun _ h=>h)⟩⟩
theorem jH.kept(h:jH w base inn bp mb B kv sets next)(hb:Below w.heap.size w w'):jH w' base inn bp mb B kv sets next :=
 ⟨h.box.kept hb,h.tab.kept hb,h.rows.kept hb,h.nexts.kept hb,h.BI,fun b hi=>Nat.lt_of_lt_of_le (h.BJ b hi) hb.size,h.rQ,h.JZ,h.J3,h.J4,h.sn,h.lt,h.small,Nat.le_trans h.bs hb.size⟩
theorem jH.more{w0:World}{a:Option Addr}(h:jH w base inn bp mb B kv sets next)(hs:w0.heap.size≤w.heap.size)(hoff:∀ ad,a=some ad→ad.block<w0.heap.size∧ad.block≠bp∧ad.block≠B.tb∧ad.block≠mb∧kv.ownBlock≠some ad.block∧B.sv.ownBlock≠some ad.block∧B.nv.ownBlock≠some ad.block) :
  jH w base (fun b=>inn b∨∃ ad,a=some ad∧ad.block=b) bp mb B kv sets next:=by
 refine⟨h.box,h.tab,h.rows.same (fun _ _ _=>rfl) (fun b hb=>.inl hb) (fun _ _=>rfl),h.nexts.same (fun _ _ _=>rfl) (fun b hb=>.inl hb) (fun _ _=>rfl),h.BI,?_,?_,?_,?_,?_,h.sn,h.lt,h.small,h.bs⟩
 ·rintro b (hb | ⟨ad,ha,rfl⟩)
  ·exact h.BJ b hb
  ·have:=(hoff ad ha).1;omega
 ·refine⟨?_,?_,?_⟩
  ·rintro(hb | ⟨ad,ha,e⟩)
   ·exact h.rQ.1 hb
   ·exact(hoff ad ha).2.1 e
  ·rintro(hb | ⟨ad,ha,e⟩)
   ·exact h.rQ.2.1 hb
   ·exact(hoff ad ha).2.2.1 e
  ·rintro(hb | ⟨ad,ha,e⟩)
   ·exact h.rQ.2.2 hb
   ·exact(hoff ad ha).2.2.2.1 e
 ·rintro g hg (hb | ⟨ad,ha,rfl⟩)
  ·exact h.JZ g hg hb
  ·exact(hoff ad ha).2.2.2.2.1 hg
 ·rintro g hg (hb | ⟨ad,ha,rfl⟩)
  ·exact h.J3 g hg hb
  ·exact(hoff ad ha).2.2.2.2.2.1 hg
 ·rintro g hg (hb | ⟨ad,ha,rfl⟩)
  ·exact h.J4 g hg hb
  ·exact(hoff ad ha).2.2.2.2.2.2 hg
theorem jH.after{kv':Value}{rows:List Dv}(h:jH w base inn bp mb B kv sets next)(k:afu B.tb mb kv kv' w w')(hr:Own w base 24 1 tC B.sv rows):Box w' bp (dJ B) 226∧Own w' base 24 1 tC B.sv rows:=by
 have hlt:=h.lt
 have htl:=h.tab.lt
 refine⟨(k.block bp h.box.lt hlt.2.1 hlt.2.2 fun e=>by have:=(h.tab.own.blk e).1;omega).trans h.box,hr.same fun g hg=>k.block g (hr.blk hg).2 (by have:=(hr.blk hg).1;omega) (by have:=(hr.blk hg).1;omega) fun e=>?_⟩
 obtain⟨_,c1,b1⟩:=hr.block g hg
 obtain⟨_,c2,b2⟩:=h.tab.own.block g e
 exact absurd (b1.kK b2) (by decide)
end
structure afB(bp tb mb:Nat)(kv sv kv' sv':Value)(w w':World):Prop where
 os:w'.os=w.os
 tape:w'.tape=w.tape
 output:w'.output=w.output
 size:w.heap.size≤w'.heap.size
 block:∀ b,b<w.heap.size→b≠bp→b≠tb→b≠mb→kv.ownBlock≠some b→sv.ownBlock≠some b→w'.heap[b]?=w.heap[b]?
 aa6:∀ g,kv'.ownBlock=some g→kv.ownBlock=some g∨w.heap.size≤g
 Tf:∀ g,sv'.ownBlock=some g→sv.ownBlock=some g∨w.heap.size≤g
theorem agQ(S i:Nat)(h:S.testBit i=true):S ||| 1 <<< i=S:=by
 apply Nat.eq_of_testBit_eq
 intro j
 rw[Nat.testBit_or,Nat.one_shiftLeft,Nat.testBit_two_pow]
 by_cases e:i=j
 ·subst e;simp[h]
 ·simp[e]
theorem I9(p g n S i:Nat)(w:World)(h:gu w p g n S)(hi:i<n)(hn:n≤65536):Calls Tryz.prog 284 #[.pointer (some ⟨p,0,none⟩),.int .i64 i] w fun e w'=>(∃ b,e=.returned (.bool b))∧gu w' p g n (S ||| 1 <<< i)∧aU g w w':=by
 refine(Rf p g n S i w h (by omega)).mono fun e w' hr=>?_
 unfold oz at hr
 cases hb:S.testBit i with
 | false =>
  rw[if_pos ⟨hi,hb⟩] at hr
  exact⟨⟨_,hr.1⟩,hr.2.1,hr.2.2⟩
 | true =>
  rw[if_neg (by simp[hb])] at hr
  obtain⟨rfl,rfl⟩:=hr
  exact⟨⟨_,rfl⟩,by rw[agQ S i hb];exact h,aU.refl _ _⟩
theorem Me(l:List Nat)(k:Nat)(h:k<l.length):setOf (l.take (k+1))=setOf (l.take k) ||| 1 <<< l[k]:=by
 unfold setOf;rw[List.take_succ_eq_append_getElem h,List.foldl_append];rfl
theorem Ti{n S x:Nat}(h:x∈gY n S):x<n:=(Fh.1 h).1
def air(base:Nat)(inn:Nat→Prop)(bp mb:Nat)(B:jo)(kv:Value)(sets:List (List Nat))(next:List (List Int))(l:List Nat)(a:Option Addr)(w:World)(e:Ending)(w':World):Prop :=
 e=.returned (.int .i64 (dw sets l).1)∧∃ kv' sv',jH w' base (fun b=>inn b∨∃ ad,a=some ad∧ad.block=b) bp mb { B with sv:=sv' } kv' (dw sets l).2 next∧afB bp B.tb mb kv B.sv kv' sv' w w'
theorem Pv(base:Nat)(inn:Nat→Prop)(bp mb:Nat)(B:jo)(kv:Value)(sets:List (List Nat))(next:List (List Int))(l:List Nat)(a:Option Addr)(n cap:Nat)(w:World)(h:jH w base inn bp mb B kv sets next)(hl:ak w (.slice a n cap) 1 aG l)(hset:yj B.st l)(hsl:sets.length≤1099511627776)
  (hoff:∀ ad,a=some ad→ad.block<w.heap.size∧ad.block≠bp∧ad.block≠B.tb∧ad.block≠mb∧kv.ownBlock≠some ad.block∧B.sv.ownBlock≠some ad.block∧B.nv.ownBlock≠some ad.block) :
  Calls Tryz.prog 240 #[.pointer (some ⟨bp,0,none⟩),.slice a n cap] w (air base inn bp mb B kv sets next l a w):=by
 have hnew:=KY B.st w (by have:=h.small;omega)
 have x1:w.cell? ⟨bp,1,none⟩=some (.int .i64 B.st):=(h.box.cell 1).trans (uJ B)
 have hbl:=h.box.lt
 have hsm:=h.small
 obtain⟨lb,lo,hn,hc,hc2,ha,hx⟩:=ak.bY (f:=fun x:Nat=>Value.int .i64 (x:Nat)) hl
 have hmem:∀ x∈l,x<B.st:=fun x hx=>by rw[hset.set.2] at hx;exact Ti hx
 have hnc:n≤cap:=by omega
 have HN:=ah hnew;have HL:=ah hl;have uY:=ah hn;have HA:=ah ha;have HX:=ah hx;have HM:=ah hmem;have HH:=ah h;have HO:=ah hoff;have HS:=ah hset
 clear hnew hl hn ha hx hmem h hoff hset hc
 have hidx:=Md B.st l HS.out sets HH.out.BI
 cases hj:sets.idxOf? l with
 | some j =>
  rw[hj] at hidx
  go_enter Tryz.func240,Tryz.ntmps240
  go_wp2_with (go_at_call 283;go_must (refine HN.out.mono ?_;rintro e w2 ⟨rfl,hB2,hs2,hb2⟩;have HB2:=ah (And.intro hB2 hb2);clear hB2 hb2))
  clear x1 hs2
  go_loopw [21] (fun i wr=>∃ k:Nat,k≤n∧i=.int .i64 k∧gu wr (w.heap.size+1) w.heap.size B.st (setOf (l.take k))∧Below w.heap.size w wr) (fun i _=>n - (intOf i).toNat)
  case atStart=>exact⟨0,Nat.zero_le _,rfl,HB2.out.1,HB2.out.2⟩
  case round =>
   obtain⟨k,hk,rfl,hBt,hB⟩:=hrel
   by_cases hlt:k<n
   ·have hlk:k<l.length:=by rw[←uY.out];exact hlt
    obtain rfl:=HA.out k hlk
    have c0:=HX.out k hlk wr hB
    have hbl:=World.block_lt_of_cell? wr _ c0
    have hft:=Me l k hlk
    have hput:=I9 (w.heap.size+1) w.heap.size B.st _ l[k] wr hBt (HM.out _ (List.getElem_mem hlk)) hsm
    rw[←hft] at hput
    generalize l[k]=s at *
    have HP:=ah hput
    clear hput hft hBt
    have hkn:(k:Int)<(n:Int):=by omega
    have hk0:(0:Int)≤(k:Int):=by omega
    go_wp2_with (go_at_call 284;go_must (refine HP.out.mono ?_;rintro e w4 ⟨⟨bb,rfl⟩,ad2,hO4⟩))
    exact⟨⟨k+1,hlt,by push_cast;rfl,ad2,hO4.toBelow hB (Nat.le_refl _)⟩,by simp[intOf];omega⟩
   ·obtain rfl:k=n:=by omega
    rw[uY.out,List.take_length] at hBt
    have HF:Hid (∀ u,Later wr.drew u→jH u base inn bp mb B kv sets next∧gu u (w.heap.size+1) w.heap.size B.st (setOf l)∧Below w.heap.size w u):=ah fun u hl=>by
     have h1:Below w.heap.size w wr.drew:=hB.trans ((Below.refl wr.heap.size wr).drew.mono hB.size)
     have h2:=h1.trans (hl.mono h1.size)
     exact⟨HH.out.kept h2,⟨hBt.box.drew.kept hl,hBt.words.drew.kept hl,hBt.lt,hBt.ne⟩,h2⟩
    clear hBt hB
    go_wp2_with fail
    refine jq (R:=Later) [6,6] (by kernel_rfl) ?_
    refine pl [0,1,2] ?_
    repeat
     refine qV ?_ rfl (fun w1=>?_) ?_
     rotate_left
     ·go_simp;try with_reducible rfl
     simp only[eA,eB,eC,Act.put,eD,eE,eF]
    refine dI ?_
    refine EJ 3 ?_ rfl (fun w1 hl=>?_) ?_
    rotate_left
    ·obtain⟨hX,_,_⟩:=HF.out w1 hl;have y2:w1.cell? ⟨bp,259,none⟩=some (.pointer (some ⟨B.tb,0,none⟩)):=(hX.box.cell 259).trans (vI B);go_simp;try with_reducible rfl
    simp only[eA,eB,eC,Act.put,eD,eE,eF]
    refine QK 4 ?_ rfl (fun w1=>?_) ?_
    rotate_left
    ·go_simp;try with_reducible rfl
    simp only[eA,eB,eC,Act.put,eD,eE,eF]
    refine clT 5 ?_ ?_ ?_ rfl (fun w1=>?_) (fun w1 hl=>?_) ?_
    rotate_left 4
    ·exact RH (w.heap.size+1) w.heap.size B.st (setOf l) w1 (by omega) (HF.out w1 hl).2.1
    rotate_left
    ·go_simp
    simp only[eA,eB,eC,Act.put,eD,eE,eF]
    refine fH (T:=[6,6]) (i:=6) (by kernel_rfl) rfl (fun w1 hl K hK=>?_)
    obtain⟨hX,_,hBw⟩:=HF.out w1 hl
    clear hl
    go_simp
    refine(Ym B.tb mb base j kv _ (keyOf B.st l) w1 hX.tab hidx).mono ?_
    rintro e w5 ⟨rfl,rfl⟩
    refine hK.out _ _ (fun h=>absurd h (by decide)) ?_
    clear hK K
    refine pl [7,8,9,10,11] ?_
    repeat
     refine qV ?_ rfl (fun w1=>?_) ?_
     rotate_left
     ·go_simp;try with_reducible rfl
     simp only[eA,eB,eC,Act.put,eD,eE,eF]
    refine dI ?_
    refine nK (by kernel_rfl) (fun w1 hl=>?_) _
    have hBw2:=hBw.trans (hl.mono hBw.size)
    have hX2:=hX.kept hl
    clear hl hX hBw HF
    go_wp2
    go_ret
    have e1:dw sets l=(j,sets):=by unfold dw;rw[hj]
    refine⟨by rw[e1];rfl,kv,B.sv,?_,⟨hBw2.os,hBw2.tape,hBw2.output,hBw2.size,fun b hb _ _ _ _ _=>hBw2.block b hb,fun g h=>.inl h,fun g h=>.inl h⟩⟩
    rw[e1]
    exact hX2.more hBw2.size HO.out
 | none =>
  rw[hj] at hidx
  go_enter Tryz.func240,Tryz.ntmps240
  go_wp2_with (go_at_call 283;go_must (refine HN.out.mono ?_;rintro e w2 ⟨rfl,hB2,hs2,hb2⟩;have HB2:=ah (And.intro hB2 hb2);clear hB2 hb2))
  clear x1 hs2
  go_loopw [21] (fun i wr=>∃ k:Nat,k≤n∧i=.int .i64 k∧gu wr (w.heap.size+1) w.heap.size B.st (setOf (l.take k))∧Below w.heap.size w wr) (fun i _=>n - (intOf i).toNat)
  case atStart=>exact⟨0,Nat.zero_le _,rfl,HB2.out.1,HB2.out.2⟩
  case round =>
   obtain⟨k,hk,rfl,hBt,hB⟩:=hrel
   by_cases hlt:k<n
   ·have hlk:k<l.length:=by rw[←uY.out];exact hlt
    obtain rfl:=HA.out k hlk
    have c0:=HX.out k hlk wr hB
    have hbl:=World.block_lt_of_cell? wr _ c0
    have hft:=Me l k hlk
    have hput:=I9 (w.heap.size+1) w.heap.size B.st _ l[k] wr hBt (HM.out _ (List.getElem_mem hlk)) hsm
    rw[←hft] at hput
    generalize l[k]=s at *
    have HP:=ah hput
    clear hput hft hBt
    have hkn:(k:Int)<(n:Int):=by omega
    have hk0:(0:Int)≤(k:Int):=by omega
    go_wp2_with (go_at_call 284;go_must (refine HP.out.mono ?_;rintro e w4 ⟨⟨bb,rfl⟩,ad2,hO4⟩))
    exact⟨⟨k+1,hlt,by push_cast;rfl,ad2,hO4.toBelow hB (Nat.le_refl _)⟩,by simp[intOf];omega⟩
   ·obtain rfl:k=n:=by omega
    rw[uY.out,List.take_length] at hBt
    have HF:Hid (∀ u,Later wr.drew u→jH u base inn bp mb B kv sets next∧gu u (w.heap.size+1) w.heap.size B.st (setOf l)∧Below w.heap.size w u):=ah fun u hl=>by
     have h1:Below w.heap.size w wr.drew:=hB.trans ((Below.refl wr.heap.size wr).drew.mono hB.size)
     have h2:=h1.trans (hl.mono h1.size)
     exact⟨HH.out.kept h2,⟨hBt.box.drew.kept hl,hBt.words.drew.kept hl,hBt.lt,hBt.ne⟩,h2⟩
    clear hBt hB
    go_wp2_with fail
    refine jq (R:=Later) [6,6] (by kernel_rfl) ?_
    refine pl [0,1,2] ?_
    repeat
     refine qV ?_ rfl (fun w1=>?_) ?_
     rotate_left
     ·go_simp;try with_reducible rfl
     simp only[eA,eB,eC,Act.put,eD,eE,eF]
    refine dI ?_
    refine EJ 3 ?_ rfl (fun w1 hl=>?_) ?_
    rotate_left
    ·obtain⟨hX,_,_⟩:=HF.out w1 hl;have y2:w1.cell? ⟨bp,259,none⟩=some (.pointer (some ⟨B.tb,0,none⟩)):=(hX.box.cell 259).trans (vI B);go_simp;try with_reducible rfl
    simp only[eA,eB,eC,Act.put,eD,eE,eF]
    refine QK 4 ?_ rfl (fun w1=>?_) ?_
    rotate_left
    ·go_simp;try with_reducible rfl
    simp only[eA,eB,eC,Act.put,eD,eE,eF]
    refine clT 5 ?_ ?_ ?_ rfl (fun w1=>?_) (fun w1 hl=>?_) ?_
    rotate_left 4
    ·exact RH (w.heap.size+1) w.heap.size B.st (setOf l) w1 (by omega) (HF.out w1 hl).2.1
    rotate_left
    ·go_simp
    simp only[eA,eB,eC,Act.put,eD,eE,eF]
    refine fH (T:=[6,6]) (i:=6) (by kernel_rfl) rfl (fun w1 hl K hK=>?_)
    obtain⟨hX,_,hBw⟩:=HF.out w1 hl
    clear hl
    go_simp
    have hbs:=hX.bs
    refine(Yn B.tb mb base kv _ (keyOf B.st l) w1 hX.tab hidx (by rw[List.length_map];exact hsl) hbs).mono ?_
    rintro e w5 ⟨rfl,kv',vk,Ja⟩
    refine hK.out _ _ (fun h=>absurd h (by decide)) ?_
    clear hK K
    refine pl [7,8,9,10,11] ?_
    repeat
     refine qV ?_ rfl (fun w1=>?_) ?_
     rotate_left
     ·go_simp;try with_reducible rfl
     simp only[eA,eB,eC,Act.put,eD,eE,eF]
    refine dI ?_
    refine nK (by kernel_rfl) (fun w1 hl=>?_) _
    obtain⟨pK,ais,hrl,ait⟩:=HH.out.rows
    have hro:=ais.kept hBw
    have Jb:=ah ait
    clear ait ais
    obtain⟨hb5,CO⟩:=hX.after Ja hro
    have hb6:=hb5.kept hl
    have Oc:=CO.kept hl
    have Dl:=vk.kept hl
    have hw6:base≤w1.heap.size:=by have h1:=Ja.size;have h2:=hl.size;omega
    have hk6:∀ b,b<w.heap.size→b≠B.tb→b≠mb→kv.ownBlock≠some b→w1.heap[b]?=w.heap[b]?:=fun b hb h1 h2 h3=>by
     have s1:=hBw.size
     have s2:=Ja.size
     exact((hl.block b (by omega)).trans (Ja.block b (by omega) h1 h2 h3)).trans (hBw.block b hb)
    have hos:w1.os=w.os∧w1.tape=w.tape∧w1.output=w.output∧w.heap.size≤w1.heap.size:=⟨(hl.os.trans Ja.os).trans hBw.os,(hl.tape.trans Ja.tape).trans hBw.tape,(hl.output.trans Ja.output).trans hBw.output,by have s1:=hBw.size;have s2:=Ja.size;have s3:=hl.size;omega⟩
    have hfk:∀ g,kv'.ownBlock=some g→kv.ownBlock=some g∨w.heap.size≤g:=fun g hg=>(Ja.fresh g hg).imp id fun h=>by have s1:=hBw.size;omega
    have y4:w1.cell? ⟨bp,260,none⟩=some B.sv:=(hb6.cell 260).trans (kH B)
    have anz:=hX.lt
    have hl6:=hb6.lt
    have hrn:pK.length+1≤1099511627777:=by rw[hrl];omega
    have Px:=ah hb6;have EP:=ah Oc;have HT6:=ah Dl;have SL:=ah hk6;have HOS:=ah hos;have HFK:=ah hfk;have Gq:=ah hrl
    clear hb6 Oc Dl hk6 hos hfk hrl hb5 CO hro vk Ja hl hX hBw HF
    go_wp2_with (at_builtin;go_must (refine dB rfl _ _ 23 rfl Gp Ar rfl (EP.out.kept (aj _ _)) ⟨w1.heap.size,0,none⟩ 1 (a,k,cap) rfl (cu w1 [.slice a k cap] _) (by simp only[maxLen];omega) (by omega) (by simp only[World.size_alloc];omega) ?_;intro a7 c7 w7 fC bZ nP;have hb7:=(Px.out.alloc (.cells #[.slice a k cap] 24)).grown (EP.out.kept (aj _ _)) bZ anz.1;have q1:=(hb7.cell 260).trans (kH B);have f1:=hb7.free 260;have FU:=hb7.lt))
    go_ret
    have e1:dw sets l=(sets.length,sets++[l]):=by unfold dw;rw[hj]
    have Yx:Own (w1.alloc (.cells #[.slice a k cap] 24)) base 24 1 tC B.sv pK:=EP.out.kept (aj _ _)
    have BK:=HT6.out.kept (aj w1 (.cells #[.slice a k cap] 24))
    have s8:(w1.alloc (.cells #[.slice a k cap] 24)).heap.size=w1.heap.size+1:=World.size_alloc _ _
    have sg:=bZ.size
    have h0:=HH.out
    have hlt0:=h0.lt
    have htl:=h0.tab.lt
    have hkn:afB bp B.tb mb kv B.sv kv' (.slice a7 (pK.length+1) c7) w (w7.setCell ⟨bp,260,none⟩ (.slice a7 (pK.length+1) c7)):=by
     obtain⟨o1,o2,o3,o4⟩:=HOS.out
     refine⟨bZ.os.trans o1,bZ.tape.trans o2,bZ.output.trans o3,by rw[World.size_setCell];omega,fun b hb n1 n2 n3 n4 n5=>?_,HFK.out,fun g hg=>?_⟩
     ·rw[heap_setCell_other _ _ b _ n1,bZ.block b (by omega) (fun e=>n5 e.symm),(aj w1 (.cells #[.slice a k cap] 24)).block b (by omega)]
      exact SL.out b hb n2 n3 n4
     ·rcases nP with e | e
      ·exact .inl (e▸hg)
      ·rw[e] at hg;cases hg;exact .inr (by omega)
    have qI:∀ b,(inn b∨∃ ad,a=some ad∧ad.block=b)→b<w.heap.size∧b≠bp∧b≠B.tb∧b≠mb∧kv.ownBlock≠some b∧B.sv.ownBlock≠some b∧B.nv.ownBlock≠some b:=by
     rintro b (hb | ⟨ad,ha,rfl⟩)
     ·exact⟨h0.BJ b hb,fun e=>h0.rQ.1 (e▸hb),fun e=>h0.rQ.2.1 (e▸hb),fun e=>h0.rQ.2.2 (e▸hb),fun e=>h0.JZ b e hb,fun e=>h0.J3 b e hb,fun e=>h0.J4 b e hb⟩
     ·exact HO.out ad ha
    have hsame:∀ b,(inn b∨∃ ad,a=some ad∧ad.block=b)→b<w.heap.size→(w7.setCell ⟨bp,260,none⟩ (.slice a7 (pK.length+1) c7)).heap[b]?=w.heap[b]?:=fun b hb hlt=>by
     obtain⟨_,m1,m2,m3,m4,m5,_⟩:=qI b hb
     exact hkn.block b hlt m1 m2 m3 m4 m5
    have hLV:dU (w7.setCell ⟨bp,260,none⟩ (.slice a7 (pK.length+1) c7)) (fun b=>inn b∨∃ ad,a=some ad∧ad.block=b) (.slice a k cap) aG l :=
     ⟨HL.out.Dw fun ad e hlt=>hsame _ (.inr ⟨ad,e,rfl⟩) hlt,fun ad n' c' e=>.inr ⟨ad,(Value.slice.inj e).1,rfl⟩⟩
    have Py:∀ g,B.nv.ownBlock=some g→(w7.setCell ⟨bp,260,none⟩ (.slice a7 (pK.length+1) c7)).heap[g]?=w.heap[g]?:=fun g hg=>by
     obtain⟨rn,aiv,_,_⟩:=h0.nexts
     have hgb:=aiv.blk hg
     refine hkn.block g hgb.2 (by omega) (by omega) (by omega) (fun e=>?_) (fun e=>h0.sn g e hg)
     obtain⟨_,c1,b1⟩:=aiv.block g hg
     obtain⟨_,c2,b2⟩:=h0.tab.own.block g e
     exact absurd (b1.kK b2) (by decide)
    have hsz:=hkn.size
    refine⟨by rw[e1];rfl,kv',_,?_,hkn⟩
    rw[e1]
    obtain⟨rn,hrn,_,_⟩:=h0.nexts
    have htab:TabAt (w7.setCell ⟨bp,260,none⟩ (.slice a7 (pK.length+1) c7)) B.tb mb base kv' ((sets++[l]).map (keyOf B.st)):=by
     rw[List.map_append]
     exact⟨(BK.box.grown Yx bZ htl.1).other _ _ (fun e=>hlt0.2.1 e.symm),(BK.mp.same (bZ.block mb BK.mp.lt fun e=>by have:=(Yx.blk e.symm).1;omega)).other _ _ (fun e=>hlt0.2.2 e.symm),(BK.own.iL Yx bZ (by decide)).other ⟨bp,260,none⟩ _ hlt0.1,htl⟩
    refine⟨?_,htab,?_,h0.nexts.same (fun b hb hlt=>hsame b (.inl hb) hlt) (fun b hb=>.inl hb) Py,?_,?_,?_,?_,?_,?_,?_,hlt0,h0.small,by rw[World.size_setCell];omega⟩
    ·have:=hb7.set 260 (.slice a7 (pK.length+1) c7)
     rwa[Vr] at this
    ·refine pY.snoc (rows:=pK) (x:=(a,k,cap)) (fC.other _ _ hlt0.1) Gq.out (fun i p q=>?_) (l:=l) (a:=a) (c:=cap) (by rw[uY.out]) (by rw[←uY.out];exact hLV)
     obtain⟨ad,c',m1,m2⟩:=Jb.out i p q
     exact⟨ad,c',m1,m2.same (fun b hb hlt=>hsame b (.inl hb) hlt) (fun b hb=>.inl hb)⟩
    ·intro x hx
     rcases List.mem_append.1 hx with hx | hx
     ·exact h0.BI x hx
     ·rw[List.mem_singleton] at hx;subst hx;exact HS.out
    ·intro b hb
     have:=(qI b hb).1;omega
    ·exact⟨fun hb=>(qI _ hb).2.1 rfl,fun hb=>(qI _ hb).2.2.1 rfl,fun hb=>(qI _ hb).2.2.2.1 rfl⟩
    ·intro g hg hb
     rcases hkn.aa6 g hg with e | e
     ·exact(qI g hb).2.2.2.2.1 e
     ·have:=(qI g hb).1;omega
    ·intro g hg hb
     rcases hkn.Tf g hg with e | e
     ·exact(qI g hb).2.2.2.2.2.1 e
     ·have:=(qI g hb).1;omega
    ·intro g hg hb
     exact(qI g hb).2.2.2.2.2.2 hg
    ·intro g hg hn
     rcases hkn.Tf g hg with e | e
     ·exact h0.sn g e hn
     ·have:=(hrn.blk hn).2;omega
end
section
open Go.RowKit Go.Shelf
attribute [local go_sem] Oper.semAt_some
def jg(l:List UInt8):List UInt8:=l.takeWhile (· != 10)
theorem ad3(l:List UInt8):(jg l).length≤l.length:=(List.takeWhile_sublist _).length_le
theorem Yy(l:List UInt8):l.take (jg l).length=jg l:=by
 induction l with
 | nil=>rfl
 | cons x l ih =>
  unfold jg at ih ⊢
  rw[List.takeWhile_cons]
  split
  ·rw[List.length_cons,List.take_succ_cons,ih]
  ·rfl
theorem MB:∀ l:List UInt8,Lib.index l [10]=if (jg l).length=l.length then -1 else ((jg l).length:Int)
 | []=>by simp[Lib.index,jg]
 | x::l=>by
  have ih:=MB l
  by_cases h:x=10
  ·subst h;simp[Lib.index,jg]
  ·have hx:Lib.index (x::l) [10]=if Lib.index l [10]=-1 then -1 else Lib.index l [10]+1:=by
    rw[Lib.index]
    simp[Ne.symm h]
   have hl:jg (x::l)=x::jg l:=by unfold jg;rw[List.takeWhile_cons,if_pos (by simpa using h)]
   rw[hx,ih,hl]
   rw[List.length_cons,List.length_cons]
   by_cases h2:(jg l).length=l.length
   ·rw[if_pos h2,if_pos rfl,if_pos (by omega)]
   ·rw[if_neg h2,if_neg (by omega),if_neg (by omega)];rfl
def Au:Nat→Nat→List UInt8→List (Nat×List UInt8)
 | 0,_,_=>[]
 | f+1,at',l=>if l.length=0 then [] else (at',jg l)::Au f (at'+((jg l).length+1)) (l.drop ((jg l).length+1))
def uK(l:List UInt8):List (Nat×List UInt8):=Au l.length 0 l
theorem Yz(f at':Nat):Au f at' []=[]:=by cases f <;> rfl
theorem Vu(f at':Nat)(l:List UInt8)(h0:l.length≠0):Au (f+1) at' l=(at',jg l)::Au f (at'+((jg l).length+1)) (l.drop ((jg l).length+1)):=by rw[Au,if_neg h0]
theorem below_drewN(w:World)(k:Nat){B:Nat}:Below B w (w.drewN k):=⟨rfl,rfl,rfl,Nat.le_refl _,fun _ _=>rfl⟩
theorem ad4(p:Addr)(n c:Nat)(l:List UInt8)(hn:n=l.length):∃ v2 v3,Lib.cutV (some p) n c 1 (Lib.index l [10])=.tuple #[.slice (some p) (jg l).length c,v2,v3]:=by
 rw[MB]
 unfold Lib.cutV
 by_cases h:(jg l).length=l.length
 ·rw[if_pos h,if_neg (by omega),hn,h];exact⟨_,_,rfl⟩
 ·rw[if_neg h,if_pos (by omega),Int.toNat_natCast];exact⟨_,_,rfl⟩
def Gs(l:List UInt8)(x:Nat×List UInt8):Prop:=x.1+x.2.length≤l.length∧x.2=(l.drop x.1).take x.2.length
abbrev afC(g:Nat×Nat)(c:Nat)(x:Nat×List UInt8):Array Value:=#[.int .i64 x.1,.slice (some ⟨g.1,g.2+x.1,none⟩) x.2.length (c - x.1)]
def ad5(X:Nat→Prop)(J:List (Nat×List UInt8)→World→Prop)(l:List UInt8)(W wr:World)(i:Value):Prop :=
 ∃ (at' f:Nat) (pre:List (Nat×List UInt8)),i=.int .i64 at'∧at'≤l.length+1∧pre++Au f at' (l.drop at')=uK l∧(l.drop at').length≤f∧J pre wr∧aS X W wr
set_option maxRecDepth 100000 in
theorem ad6(n lp bB:Nat)(g:Nat×Nat)(m c:Nat)(l:List UInt8)(hm:m≤65536)(X:Nat→Prop)(hX:¬ X bB∧¬ X g.1∧¬ X 0)(J Jx:List (Nat×List UInt8)→World→Prop)
  (hJ:∀ pre A B,J pre A→A.grownBy B none→J pre B)
  (hY:∀ pre x W,J pre W→pre.length<(uK l).length→Gs l x→YieldAt Fence.wide (n - 1) Tryz.prog lp (afC g c x) W fun e W'=>(e=.returned (.bool true)∧J (pre++[x]) W'∧aS X W W')∨(e=.returned (.bool false)∧Jx (pre++[x]) W'))
  (W:World) (hM:∃ k,W.cell? ⟨0,0,none⟩=some (.int .i64 k)) (hB:Box W bB #[.slice (some ⟨g.1,g.2,none⟩) m c] 35) (hS:ak W (.slice (some ⟨g.1,g.2,none⟩) m c) 1 bf l) (h0:J [] W) :
  CallsIn Fence.wide n Tryz.prog 136 #[.func (.yield lp) #[] #[],.pointer (some ⟨bB,0,none⟩)] W fun e W'=>(∃ v,e=.returned v)∧((∃ ys,ys=uK l∧J ys W')∨(∃ pre,pre <+: uK l∧Jx pre W')):=by
 refine callsIn_of_wp Tryz.func136 rfl trivial ?_ rfl
 simp only[Tryz.ntmps136,List.size_toArray,List.length_cons,List.length_nil,Nat.reduceAdd,Nat.reduceSub,Array.replicate_succ,Array.replicate_zero,List.push_toArray,List.append_toArray,List.nil_append,List.cons_append]
 gi_wp2
 gi_loopw [3] (fun i wr=>ad5 X J l W wr i) (fun i _=>m+1 - (intOf i).toNat)
 case atStart=>exact⟨0,l.length,[],rfl,by omega,rfl,by simp,h0,aS.refl _ _⟩
 case round =>
  obtain⟨at',f,pre,rfl,hle,he,hf,wR,hkr⟩:=hrel
  have hBr:=hkr.box hX.1 hB
  have k0:=hBr.cell 0
  obtain⟨hlm,hmc,hc63,hcell⟩:=hS.cellsA
  by_cases hlt:at'<m
  ·have hca:¬ c=at':=by omega
   have anA:decide ((at':Int)<(m:Int))=true:=decide_eq_true (by omega)
   have hlen:(l.drop at').length=m - at':=by rw[List.length_drop];omega
   obtain⟨f,rfl⟩:∃ f',f=f'+1:=⟨f - 1,by omega⟩
   rw[Vu f at' _ (by omega),List.drop_drop] at he
   have aiw:=ad3 (l.drop at')
   have hBW:Below wr.heap.size wr (wr.alloc (.cells #[.int .u8 10] 5)):=aj _ _
   obtain⟨k9,hk9⟩:=hM
   have hM9:(wr.alloc (.cells #[.int .u8 10] 5)).cell? ⟨0,0,none⟩=some (.int .i64 k9):=((hkr.trans (aS.below hBW)).cell hX.2.2 hk9)
   have hcl:∀ i,i<m - at'→(wr.alloc (.cells #[.int .u8 10] 5)).cell? ⟨g.1,g.2+at'+i,none⟩=some (.int .u8 (((l.drop at').map fun u=>((u.toNat:Nat):Int)).getD i 0)):=fun i hi=>by
    have h1:=hcell (at'+i) (by omega) W (Below.refl _ _)
    have h2:=(hkr.trans (aS.below hBW)).cell hX.2.1 h1
    rw[Nat.add_assoc,h2]
    simp[List.getD,List.getElem?_map,List.getElem?_drop,List.getElem?_eq_getElem (show at'+i<l.length by omega)]
   have hcut:=Tryz.bytes_Cut_all (some ⟨g.1,g.2+at',none⟩) (some ⟨wr.heap.size,0,none⟩) (m - at') (c - at') 1 1 ((l.drop at').map fun u=>((u.toNat:Nat):Int)) [10] k9 (wr.alloc (.cells #[.int .u8 10] 5)) (by rw[List.length_map,hlen]) rfl (fun x hx=>by
    rw[List.mem_map] at hx
    obtain⟨u,_,rfl⟩:=hx
    have:=u.toNat_lt
    omega) (fun y hy=>by simp at hy;subst hy;decide) (fun _=>⟨_,_,rfl,hcl⟩) (fun _=>⟨_,_,rfl,fun i hi=>by
     obtain rfl:i=0:=by omega
     exact(Box.new wr #[.int .u8 10] 5).cell 0⟩) (by simp) (by omega) (by omega) (by omega) hM9
   have hbo:Lib.bytesOf ((l.drop at').map fun u=>((u.toNat:Nat):Int))=l.drop at':=by
    unfold Lib.bytesOf
    simp[List.map_map,Function.comp_def]
   rw[hbo,show Lib.bytesOf [10]=[10] from rfl] at hcut
   obtain⟨v2,v3,hv⟩:=ad4 ⟨g.1,g.2+at',none⟩ (m - at') (c - at') (l.drop at') hlen.symm
   rw[hv] at hcut
   have FB:=fun nd=>hY pre (at',jg (l.drop at')) _ (hJ pre _ ((wr.alloc (.cells #[.int .u8 10] 5)).drewN nd) wR ⟨rfl,rfl,rfl,hBW.size,fun k hk _=>hBW.block k hk⟩) (by rw[←he];simp) ⟨by show at'+(jg _).length≤_;omega,(Yy _).symm⟩
   have hwrap:at'+((jg (l.drop at')).length+1)≤70000:=by omega
   generalize hgl:jg (l.drop at')=ln at *
   have HC:=ah hcut
   have HY:=ah FB
   have HE:=ah he
   have HW:=ah hwrap
   have HL:=ah aiw
   have HF:=ah hf
   have HLM:=ah hlm
   have uY:=ah hlen
   have hln:ln.length≤65536:=by omega
   have hkd:=fun nd=>hkr.trans (aS.below (hBW.trans (below_drewN _ nd)))
   have HK:=ah hkd
   have arx:(at':Int)≤(m:Int):=by omega
   have aq6:(m:Int)≤(c:Int):=by omega
   have hdd:∀ k:Nat,(Fence.wide.depth.isSome=true→1≤k):=fun k h=>by cases h
   clear hcut FB he hcl hM9 hbo hv hY hf aiw hlen hlm hcell hS hwrap hkd hk9 hgl
   gi_wp2_with (first | (refine⟨trivial,hdd _,?_⟩;gi_at_call 137;go_must (refine(callsIn_wide.2 HC.out).mono ?_;rintro e w1 ⟨rfl,nd,rfl⟩;obtain⟨fn,tmps,assign,body,hy,hR⟩:=HY.out nd)) | (refine⟨hdd _,?_⟩;refine hR.mono ?_;clear hR;rintro e W2 (⟨rfl,hJ2,hk2⟩ | ⟨rfl,hx2⟩)))
   ·have h1:=HL.out
    have h2:=uY.out
    have h3:=HLM.out
    have h4:=HF.out
    refine⟨⟨at'+(ln.length+1),f,pre++[(at',ln)],by push_cast;rfl,by omega,by rw[List.append_assoc];exact HE.out,by rw[List.length_drop] at h4 ⊢;omega,hJ2,(HK.out nd).trans hk2⟩,by simp[intOf];omega⟩
   ·refine bodyPost_ret (results_none rfl _ _ _) rfl ?_
    refine⟨⟨_,rfl⟩,.inr ⟨_,?_,hx2⟩⟩
    rw[←HE.out]
    exact⟨_,by rw[List.append_assoc];rfl⟩
  ·have anA:decide ((at':Int)<(m:Int))=false:=decide_eq_false (by omega)
   rw[List.drop_eq_nil_of_le (by omega),Yz,List.append_nil] at he
   subst he
   clear hcell hlm hmc hc63 hM hB hS
   gi_wp2
   go_end0
   exact⟨⟨_,rfl⟩,.inl ⟨_,rfl,wR⟩⟩
def afD(l:List UInt8)(g:Nat×Nat)(c:Nat)(x:{ x:Nat×List UInt8 // Gs l x }):Array Value:=afC g c x.1
theorem Vw(n bB:Nat)(g:Nat×Nat)(m c:Nat)(l:List UInt8)(hm:m≤65536)(X:Nat→Prop)(hX:¬ X bB∧¬ X g.1∧¬ X 0)(w:World)(hM:∃ k,w.cell? ⟨0,0,none⟩=some (.int .i64 k))(hB:Box w bB #[.slice (some ⟨g.1,g.2,none⟩) m c] 35)(hS:ak w (.slice (some ⟨g.1,g.2,none⟩) m c) 1 bf l) :
  SeqStopsK Fence.wide n Tryz.prog 136 #[.pointer (some ⟨bB,0,none⟩)] (afD l g c) (aS X) (fun ys=>ys.map (·.val)=uK l) (fun pre=>pre.map (·.val) <+: uK l) (uK l).length w:=fun lp J Jx W hW hJ _ hY h0=>by
 obtain⟨k,hk⟩:=hM
 refine(ad6 n lp bB g m c l hm X hX (fun pre W=>∃ p:List { x:Nat×List UInt8 // Gs l x },p.map (·.val)=pre∧J p W) (fun pre W=>∃ p:List { x:Nat×List UInt8 // Gs l x },p.map (·.val)=pre∧Jx p W) (fun pre A B ⟨p,hp,hA⟩ hg=>⟨p,hp,hJ p A B none hA hg (fun r e=>by cases e)⟩)
  (fun pre x W ⟨p,hp,hj⟩ hl hx=>(hY p ⟨x,hx⟩ W hj (by rw[←hp] at hl;simpa using hl)).mono (fun e W' h=>?_)) W ⟨k,(aS.below (X:=fun _=>False) hW).cell id hk⟩ (hB.kept hW) (hS.kept hW) ⟨[],rfl,h0⟩).mono (fun e W' h=>?_)
 ·rcases h with⟨h1,h2,h3⟩ | ⟨h1,h2⟩
  ·exact .inl ⟨h1,⟨_,by simp[hp],h2⟩,h3⟩
  ·exact .inr ⟨h1,_,by simp[hp],h2⟩
 ·rcases h with⟨h1,⟨_,rfl,p,hp,h2⟩ | ⟨_,h3,p,rfl,h2⟩⟩
  ·exact⟨h1,.inl ⟨p,hp,h2⟩⟩
  ·exact⟨h1,.inr ⟨p,h3,h2⟩⟩
theorem YA(v:Value)(w:World)(hv:∃ a n c,v=.slice a n c):Calls Tryz.prog 97 #[v] w fun e w'=>e=.returned (.func (.func 136) #[] #[.pointer (some ⟨w.heap.size,0,none⟩)])∧w'=w.alloc (.cells #[v] 35):=by
 obtain⟨a,n,c,rfl⟩:=hv
 go_enter Tryz.func97,Tryz.ntmps97
 go_wp2
 have hmf:∀ (fn:Fn) (first cap:Array Value) (w:World),(Instr.makeFunc fn first cap).run Tryz.prog w=.ok (.func fn first cap) w:=fun _ _ _ _=>rfl
 go_ret
 exact⟨rfl,rfl⟩
end
end Go.Proofs.YtbemonecmmnlcaaGreatDoor
