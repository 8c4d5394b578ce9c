/- The texts of S20, in few letters (mini.py). -/
import Derived.Test.YtbemonecmmnlcaaGreatDoorM19
set_option linter.unusedVariables false
set_option linter.unusedSimpArgs false
set_option maxRecDepth 20000
set_option maxHeartbeats 3200000
namespace Go.Proofs.YtbemonecmmnlcaaGreatDoor
section
open Go.RowKit
theorem D5:dQ Tryz.prog 23 24 (.slice none 0 0) 1 24:=⟨Tryz.underlying23,info_parts (by kernel_rfl),rfl,by decide⟩
structure jc(w:World)(base:Nat)(inn:Nat→Prop)(bp mb:Nat)(B:iP)(kv:Value)(sets:List (List Nat))(next:List (List Int)):Prop where
 box:Box w bp (bW B) 226
 tab:TabAt w B.tb mb base kv (sets.map (keyOf B.st))
 rows:nJ w base 24 inn aI B.sv sets
 nexts:nJ w base 24 inn encI B.nv next
 yZ:∀ x∈sets,vH B.st x
 zf:∀ b,inn b→b<w.heap.size
 pF:¬ inn bp∧¬ inn B.tb∧¬ inn mb
 GI:∀ g,kv.ownBlock=some g→¬ inn g
 GK:∀ g,B.sv.ownBlock=some g→¬ inn g
 GL:∀ g,B.nv.ownBlock=some g→¬ inn g
 sn:∀ g,B.sv.ownBlock=some g→B.nv.ownBlock≠some g
 lt:bp<base∧bp≠B.tb∧bp≠mb
 small:B.st≤65536
 bs:base≤w.heap.size
section
variable {w w':World} {base:Nat} {inn:Nat→Prop} {bp mb:Nat} {B:iP} {kv:Value} {sets:List (List Nat)} {next:List (List Int)}
theorem nJ.kept{α:Type}{E:Nat}{enc:α→List Value}{v:Value}{L:List (List α)}(h:nJ w base E inn enc v L)(hb:Below w.heap.size w w'):nJ w' base E inn enc v L:=by
 obtain⟨rows,h1,h2,h3⟩:=h
 exact⟨rows,h1.kept hb,h2,fun i a b=>by obtain⟨x,c,e,k⟩:=h3 i a b;exact⟨x,c,e,k.same (fun b _ hlt=>hb.block b hlt) (fun _ h=>h)⟩⟩
theorem jc.kept(h:jc w base inn bp mb B kv sets next)(hb:Below w.heap.size w w'):jc w' base inn bp mb B kv sets next :=
 ⟨h.box.kept hb,h.tab.kept hb,h.rows.kept hb,h.nexts.kept hb,h.yZ,fun b hi=>Nat.lt_of_lt_of_le (h.zf b hi) hb.size,h.pF,h.GI,h.GK,h.GL,h.sn,h.lt,h.small,Nat.le_trans h.bs hb.size⟩
theorem jc.more{w0:World}{a:Option Addr}(h:jc w base inn bp mb B kv sets next)(hs:w0.heap.size≤w.heap.size)(hoff:∀ ad,a=some ad→ad.block<w0.heap.size∧ad.block≠bp∧ad.block≠B.tb∧ad.block≠mb∧kv.ownBlock≠some ad.block∧B.sv.ownBlock≠some ad.block∧B.nv.ownBlock≠some ad.block) :
  jc w base (fun b=>inn b∨∃ ad,a=some ad∧ad.block=b) bp mb B kv sets next:=by
 refine⟨h.box,h.tab,h.rows.same (fun _ _ _=>rfl) (fun b hb=>.inl hb) (fun _ _=>rfl),h.nexts.same (fun _ _ _=>rfl) (fun b hb=>.inl hb) (fun _ _=>rfl),h.yZ,?_,?_,?_,?_,?_,h.sn,h.lt,h.small,h.bs⟩
 ·rintro b (hb | ⟨ad,ha,rfl⟩)
  ·exact h.zf b hb
  ·have:=(hoff ad ha).1;omega
 ·refine⟨?_,?_,?_⟩
  ·rintro(hb | ⟨ad,ha,e⟩)
   ·exact h.pF.1 hb
   ·exact(hoff ad ha).2.1 e
  ·rintro(hb | ⟨ad,ha,e⟩)
   ·exact h.pF.2.1 hb
   ·exact(hoff ad ha).2.2.1 e
  ·rintro(hb | ⟨ad,ha,e⟩)
   ·exact h.pF.2.2 hb
   ·exact(hoff ad ha).2.2.2.1 e
 ·rintro g hg (hb | ⟨ad,ha,rfl⟩)
  ·exact h.GI g hg hb
  ·exact(hoff ad ha).2.2.2.2.1 hg
 ·rintro g hg (hb | ⟨ad,ha,rfl⟩)
  ·exact h.GK g hg hb
  ·exact(hoff ad ha).2.2.2.2.2.1 hg
 ·rintro g hg (hb | ⟨ad,ha,rfl⟩)
  ·exact h.GL g hg hb
  ·exact(hoff ad ha).2.2.2.2.2.2 hg
theorem jc.after{kv':Value}{rows:List Fz}(h:jc w base inn bp mb B kv sets next)(k:abJ B.tb mb kv kv' w w')(hr:Own w base 24 1 vG B.sv rows):Box w' bp (bW B) 226∧Own w' base 24 1 vG B.sv rows:=by
 have hlt:=h.lt
 have htl:=h.tab.lt
 refine⟨(k.block bp h.box.lt hlt.2.1 hlt.2.2 fun e=>by have:=(h.tab.own.blk e).1;omega).trans h.box,hr.same fun g hg=>k.block g (hr.blk hg).2 (by have:=(hr.blk hg).1;omega) (by have:=(hr.blk hg).1;omega) fun e=>?_⟩
 obtain⟨_,c1,b1⟩:=hr.block g hg
 obtain⟨_,c2,b2⟩:=h.tab.own.block g e
 exact absurd (b1.jC b2) (by decide)
end
structure abS(bp tb mb:Nat)(kv sv kv' sv':Value)(w w':World):Prop where
 os:w'.os=w.os
 tape:w'.tape=w.tape
 output:w'.output=w.output
 size:w.heap.size≤w'.heap.size
 block:∀ b,b<w.heap.size→b≠bp→b≠tb→b≠mb→kv.ownBlock≠some b→sv.ownBlock≠some b→w'.heap[b]?=w.heap[b]?
 XK:∀ g,kv'.ownBlock=some g→kv.ownBlock=some g∨w.heap.size≤g
 O5:∀ g,sv'.ownBlock=some g→sv.ownBlock=some g∨w.heap.size≤g
theorem adb(S i:Nat)(h:S.testBit i=true):S ||| 1 <<< i=S:=by
 apply Nat.eq_of_testBit_eq
 intro j
 rw[Nat.testBit_or,Nat.one_shiftLeft,Nat.testBit_two_pow]
 by_cases e:i=j
 ·subst e;simp[h]
 ·simp[e]
theorem FB(p g n S i:Nat)(w:World)(h:fB w p g n S)(hi:i<n)(hn:n≤65536):Calls Tryz.prog 284 #[.pointer (some ⟨p,0,none⟩),.int .i64 i] w fun e w'=>(∃ b,e=.returned (.bool b))∧fB w' p g n (S ||| 1 <<< i)∧aP g w w':=by
 refine(NR p g n S i w h (by omega)).mono fun e w' hr=>?_
 unfold lT at hr
 cases hb:S.testBit i with
 | false =>
  rw[if_pos ⟨hi,hb⟩] at hr
  exact⟨⟨_,hr.1⟩,hr.2.1,hr.2.2⟩
 | true =>
  rw[if_neg (by simp[hb])] at hr
  obtain⟨rfl,rfl⟩:=hr
  exact⟨⟨_,rfl⟩,by rw[adb S i hb];exact h,aP.refl _ _⟩
theorem I9(l:List Nat)(k:Nat)(h:k<l.length):setOf (l.take (k+1))=setOf (l.take k) ||| 1 <<< l[k]:=by
 unfold setOf;rw[List.take_succ_eq_append_getElem h,List.foldl_append];rfl
theorem O6{n S x:Nat}(h:x∈fM n S):x<n:=(CV.1 h).1
def aeN(base:Nat)(inn:Nat→Prop)(bp mb:Nat)(B:iP)(kv:Value)(sets:List (List Nat))(next:List (List Int))(l:List Nat)(a:Option Addr)(w:World)(e:Ending)(w':World):Prop :=
 e=.returned (.int .i64 (bP sets l).1)∧∃ kv' sv',jc w' base (fun b=>inn b∨∃ ad,a=some ad∧ad.block=b) bp mb { B with sv:=sv' } kv' (bP sets l).2 next∧abS bp B.tb mb kv B.sv kv' sv' w w'
theorem Ls(base:Nat)(inn:Nat→Prop)(bp mb:Nat)(B:iP)(kv:Value)(sets:List (List Nat))(next:List (List Int))(l:List Nat)(a:Option Addr)(n cap:Nat)(w:World)(h:jc w base inn bp mb B kv sets next)(hl:ak w (.slice a n cap) 1 aI l)(hset:vH B.st l)(hsl:sets.length≤1099511627776)
  (hoff:∀ ad,a=some ad→ad.block<w.heap.size∧ad.block≠bp∧ad.block≠B.tb∧ad.block≠mb∧kv.ownBlock≠some ad.block∧B.sv.ownBlock≠some ad.block∧B.nv.ownBlock≠some ad.block) :
  Calls Tryz.prog 240 #[.pointer (some ⟨bp,0,none⟩),.slice a n cap] w (aeN base inn bp mb B kv sets next l a w):=by
 have hnew:=Ib B.st w (by have:=h.small;omega)
 have x1:w.cell? ⟨bp,1,none⟩=some (.int .i64 B.st):=(h.box.cell 1).trans (qQ B)
 have hbl:=h.box.lt
 have hsm:=h.small
 obtain⟨lb,lo,hn,hc,hc2,ha,hx⟩:=ak.dG (f:=fun x:Nat=>Value.int .i64 (x:Nat)) hl
 have hmem:∀ x∈l,x<B.st:=fun x hx=>by rw[hset.set.2] at hx;exact O6 hx
 have hnc:n≤cap:=by omega
 have HN:=ah hnew;have HL:=ah hl;have ru:=ah hn;have HA:=ah ha;have HX:=ah hx;have HM:=ah hmem;have HH:=ah h;have HO:=ah hoff;have HS:=ah hset
 clear hnew hl hn ha hx hmem h hoff hset hc
 have hidx:=I8 B.st l HS.out sets HH.out.yZ
 cases hj:sets.idxOf? l with
 | some j =>
  rw[hj] at hidx
  go_enter Tryz.func240,Tryz.ntmps240
  go_wp2_with (go_at_call 283;go_must (refine HN.out.mono ?_;rintro e w2 ⟨rfl,hB2,hs2,hb2⟩;have HB2:=ah (And.intro hB2 hb2);clear hB2 hb2))
  clear x1 hs2
  go_loopw [21] (fun i wr=>∃ k:Nat,k≤n∧i=.int .i64 k∧fB wr (w.heap.size+1) w.heap.size B.st (setOf (l.take k))∧Below w.heap.size w wr) (fun i _=>n - (intOf i).toNat)
  case atStart=>exact⟨0,Nat.zero_le _,rfl,HB2.out.1,HB2.out.2⟩
  case round =>
   obtain⟨k,hk,rfl,hBt,hB⟩:=hrel
   by_cases hlt:k<n
   ·have hlk:k<l.length:=by rw[←ru.out];exact hlt
    obtain rfl:=HA.out k hlk
    have c0:=HX.out k hlk wr hB
    have hbl:=World.block_lt_of_cell? wr _ c0
    have hft:=I9 l k hlk
    have hput:=FB (w.heap.size+1) w.heap.size B.st _ l[k] wr hBt (HM.out _ (List.getElem_mem hlk)) hsm
    rw[←hft] at hput
    generalize l[k]=s at *
    have HP:=ah hput
    clear hput hft hBt
    have hkn:(k:Int)<(n:Int):=by omega
    have hk0:(0:Int)≤(k:Int):=by omega
    go_wp2_with (go_at_call 284;go_must (refine HP.out.mono ?_;rintro e w4 ⟨⟨bb,rfl⟩,aac,hO4⟩))
    exact⟨⟨k+1,hlt,by push_cast;rfl,aac,hO4.toBelow hB (Nat.le_refl _)⟩,by simp[intOf];omega⟩
   ·obtain rfl:k=n:=by omega
    rw[ru.out,List.take_length] at hBt
    have HF:Hid (∀ u,Later wr.drew u→jc u base inn bp mb B kv sets next∧fB u (w.heap.size+1) w.heap.size B.st (setOf l)∧Below w.heap.size w u):=ah fun u hl=>by
     have h1:Below w.heap.size w wr.drew:=hB.trans ((Below.refl wr.heap.size wr).drew.mono hB.size)
     have h2:=h1.trans (hl.mono h1.size)
     exact⟨HH.out.kept h2,⟨hBt.box.drew.kept hl,hBt.words.drew.kept hl,hBt.lt,hBt.ne⟩,h2⟩
    clear hBt hB
    go_wp2_with fail
    refine iQ (R:=Later) [6,6] (by kernel_rfl) ?_
    refine pl [0,1,2] ?_
    repeat
     refine oM ?_ rfl (fun w1=>?_) ?_
     rotate_left
     ·go_simp;try with_reducible rfl
     simp only[eA,eB,eC,Act.put,eD,eE,eF]
    refine eX ?_
    refine Ce 3 ?_ rfl (fun w1 hl=>?_) ?_
    rotate_left
    ·obtain⟨hX,_,_⟩:=HF.out w1 hl;have y2:w1.cell? ⟨bp,259,none⟩=some (.pointer (some ⟨B.tb,0,none⟩)):=(hX.box.cell 259).trans (rP B);go_simp;try with_reducible rfl
    simp only[eA,eB,eC,Act.put,eD,eE,eF]
    refine Nr 4 ?_ rfl (fun w1=>?_) ?_
    rotate_left
    ·go_simp;try with_reducible rfl
    simp only[eA,eB,eC,Act.put,eD,eE,eF]
    refine clT 5 ?_ ?_ ?_ rfl (fun w1=>?_) (fun w1 hl=>?_) ?_
    rotate_left 4
    ·exact Oi (w.heap.size+1) w.heap.size B.st (setOf l) w1 (by omega) (HF.out w1 hl).2.1
    rotate_left
    ·go_simp
    simp only[eA,eB,eC,Act.put,eD,eE,eF]
    refine dP (T:=[6,6]) (i:=6) (by kernel_rfl) rfl (fun w1 hl K hK=>?_)
    obtain⟨hX,_,hBw⟩:=HF.out w1 hl
    clear hl
    go_simp
    refine(UD B.tb mb base j kv _ (keyOf B.st l) w1 hX.tab hidx).mono ?_
    rintro e w5 ⟨rfl,rfl⟩
    refine hK.out _ _ (fun h=>absurd h (by decide)) ?_
    clear hK K
    refine pl [7,8,9,10,11] ?_
    repeat
     refine oM ?_ rfl (fun w1=>?_) ?_
     rotate_left
     ·go_simp;try with_reducible rfl
     simp only[eA,eB,eC,Act.put,eD,eE,eF]
    refine eX ?_
    refine lC (by kernel_rfl) (fun w1 hl=>?_) _
    have hBw2:=hBw.trans (hl.mono hBw.size)
    have hX2:=hX.kept hl
    clear hl hX hBw HF
    go_wp2
    go_ret
    have e1:bP sets l=(j,sets):=by unfold bP;rw[hj]
    refine⟨by rw[e1];rfl,kv,B.sv,?_,⟨hBw2.os,hBw2.tape,hBw2.output,hBw2.size,fun b hb _ _ _ _ _=>hBw2.block b hb,fun g h=>.inl h,fun g h=>.inl h⟩⟩
    rw[e1]
    exact hX2.more hBw2.size HO.out
 | none =>
  rw[hj] at hidx
  go_enter Tryz.func240,Tryz.ntmps240
  go_wp2_with (go_at_call 283;go_must (refine HN.out.mono ?_;rintro e w2 ⟨rfl,hB2,hs2,hb2⟩;have HB2:=ah (And.intro hB2 hb2);clear hB2 hb2))
  clear x1 hs2
  go_loopw [21] (fun i wr=>∃ k:Nat,k≤n∧i=.int .i64 k∧fB wr (w.heap.size+1) w.heap.size B.st (setOf (l.take k))∧Below w.heap.size w wr) (fun i _=>n - (intOf i).toNat)
  case atStart=>exact⟨0,Nat.zero_le _,rfl,HB2.out.1,HB2.out.2⟩
  case round =>
   obtain⟨k,hk,rfl,hBt,hB⟩:=hrel
   by_cases hlt:k<n
   ·have hlk:k<l.length:=by rw[←ru.out];exact hlt
    obtain rfl:=HA.out k hlk
    have c0:=HX.out k hlk wr hB
    have hbl:=World.block_lt_of_cell? wr _ c0
    have hft:=I9 l k hlk
    have hput:=FB (w.heap.size+1) w.heap.size B.st _ l[k] wr hBt (HM.out _ (List.getElem_mem hlk)) hsm
    rw[←hft] at hput
    generalize l[k]=s at *
    have HP:=ah hput
    clear hput hft hBt
    have hkn:(k:Int)<(n:Int):=by omega
    have hk0:(0:Int)≤(k:Int):=by omega
    go_wp2_with (go_at_call 284;go_must (refine HP.out.mono ?_;rintro e w4 ⟨⟨bb,rfl⟩,aac,hO4⟩))
    exact⟨⟨k+1,hlt,by push_cast;rfl,aac,hO4.toBelow hB (Nat.le_refl _)⟩,by simp[intOf];omega⟩
   ·obtain rfl:k=n:=by omega
    rw[ru.out,List.take_length] at hBt
    have HF:Hid (∀ u,Later wr.drew u→jc u base inn bp mb B kv sets next∧fB u (w.heap.size+1) w.heap.size B.st (setOf l)∧Below w.heap.size w u):=ah fun u hl=>by
     have h1:Below w.heap.size w wr.drew:=hB.trans ((Below.refl wr.heap.size wr).drew.mono hB.size)
     have h2:=h1.trans (hl.mono h1.size)
     exact⟨HH.out.kept h2,⟨hBt.box.drew.kept hl,hBt.words.drew.kept hl,hBt.lt,hBt.ne⟩,h2⟩
    clear hBt hB
    go_wp2_with fail
    refine iQ (R:=Later) [6,6] (by kernel_rfl) ?_
    refine pl [0,1,2] ?_
    repeat
     refine oM ?_ rfl (fun w1=>?_) ?_
     rotate_left
     ·go_simp;try with_reducible rfl
     simp only[eA,eB,eC,Act.put,eD,eE,eF]
    refine eX ?_
    refine Ce 3 ?_ rfl (fun w1 hl=>?_) ?_
    rotate_left
    ·obtain⟨hX,_,_⟩:=HF.out w1 hl;have y2:w1.cell? ⟨bp,259,none⟩=some (.pointer (some ⟨B.tb,0,none⟩)):=(hX.box.cell 259).trans (rP B);go_simp;try with_reducible rfl
    simp only[eA,eB,eC,Act.put,eD,eE,eF]
    refine Nr 4 ?_ rfl (fun w1=>?_) ?_
    rotate_left
    ·go_simp;try with_reducible rfl
    simp only[eA,eB,eC,Act.put,eD,eE,eF]
    refine clT 5 ?_ ?_ ?_ rfl (fun w1=>?_) (fun w1 hl=>?_) ?_
    rotate_left 4
    ·exact Oi (w.heap.size+1) w.heap.size B.st (setOf l) w1 (by omega) (HF.out w1 hl).2.1
    rotate_left
    ·go_simp
    simp only[eA,eB,eC,Act.put,eD,eE,eF]
    refine dP (T:=[6,6]) (i:=6) (by kernel_rfl) rfl (fun w1 hl K hK=>?_)
    obtain⟨hX,_,hBw⟩:=HF.out w1 hl
    clear hl
    go_simp
    have hbs:=hX.bs
    refine(UE B.tb mb base kv _ (keyOf B.st l) w1 hX.tab hidx (by rw[List.length_map];exact hsl) hbs).mono ?_
    rintro e w5 ⟨rfl,kv',rE,FC⟩
    refine hK.out _ _ (fun h=>absurd h (by decide)) ?_
    clear hK K
    refine pl [7,8,9,10,11] ?_
    repeat
     refine oM ?_ rfl (fun w1=>?_) ?_
     rotate_left
     ·go_simp;try with_reducible rfl
     simp only[eA,eB,eC,Act.put,eD,eE,eF]
    refine eX ?_
    refine lC (by kernel_rfl) (fun w1 hl=>?_) _
    obtain⟨ng,aeO,hrl,aeP⟩:=HH.out.rows
    have hro:=aeO.kept hBw
    have HRE:=ah aeP
    clear aeP aeO
    obtain⟨hb5,zL⟩:=hX.after FC hro
    have hb6:=hb5.kept hl
    have J8:=zL.kept hl
    have Aj:=rE.kept hl
    have hw6:base≤w1.heap.size:=by have h1:=FC.size;have h2:=hl.size;omega
    have hk6:∀ b,b<w.heap.size→b≠B.tb→b≠mb→kv.ownBlock≠some b→w1.heap[b]?=w.heap[b]?:=fun b hb h1 h2 h3=>by
     have s1:=hBw.size
     have s2:=FC.size
     exact((hl.block b (by omega)).trans (FC.block b (by omega) h1 h2 h3)).trans (hBw.block b hb)
    have hos:w1.os=w.os∧w1.tape=w.tape∧w1.output=w.output∧w.heap.size≤w1.heap.size:=⟨(hl.os.trans FC.os).trans hBw.os,(hl.tape.trans FC.tape).trans hBw.tape,(hl.output.trans FC.output).trans hBw.output,by have s1:=hBw.size;have s2:=FC.size;have s3:=hl.size;omega⟩
    have hfk:∀ g,kv'.ownBlock=some g→kv.ownBlock=some g∨w.heap.size≤g:=fun g hg=>(FC.fresh g hg).imp id fun h=>by have s1:=hBw.size;omega
    have y4:w1.cell? ⟨bp,260,none⟩=some B.sv:=(hb6.cell 260).trans (jB B)
    have ajm:=hX.lt
    have hl6:=hb6.lt
    have hrn:ng.length+1≤1099511627777:=by rw[hrl];omega
    have Lu:=ah hb6;have IK:=ah J8;have HT6:=ah Aj;have Xr:=ah hk6;have HOS:=ah hos;have HFK:=ah hfk;have D6:=ah hrl
    clear hb6 J8 Aj hk6 hos hfk hrl hb5 zL hro rE FC hl hX hBw HF
    go_wp2_with (at_builtin;go_must (refine dS rfl _ _ 23 rfl D5 yg rfl (IK.out.kept (aj _ _)) ⟨w1.heap.size,0,none⟩ 1 (a,k,cap) rfl (cZ w1 [.slice a k cap] _) (by simp only[maxLen];omega) (by omega) (by simp only[World.size_alloc];omega) ?_;intro a7 c7 w7 iy cO qK;have hb7:=(Lu.out.alloc (.cells #[.slice a k cap] 24)).grown (IK.out.kept (aj _ _)) cO ajm.1;have q1:=(hb7.cell 260).trans (jB B);have f1:=hb7.free 260;have Dv:=hb7.lt))
    go_ret
    have e1:bP sets l=(sets.length,sets++[l]):=by unfold bP;rw[hj]
    have UQ:Own (w1.alloc (.cells #[.slice a k cap] 24)) base 24 1 vG B.sv ng:=IK.out.kept (aj _ _)
    have zh:=HT6.out.kept (aj w1 (.cells #[.slice a k cap] 24))
    have s8:(w1.alloc (.cells #[.slice a k cap] 24)).heap.size=w1.heap.size+1:=World.size_alloc _ _
    have sg:=cO.size
    have h0:=HH.out
    have hlt0:=h0.lt
    have htl:=h0.tab.lt
    have hkn:abS bp B.tb mb kv B.sv kv' (.slice a7 (ng.length+1) c7) w (w7.setCell ⟨bp,260,none⟩ (.slice a7 (ng.length+1) c7)):=by
     obtain⟨o1,o2,o3,o4⟩:=HOS.out
     refine⟨cO.os.trans o1,cO.tape.trans o2,cO.output.trans o3,by rw[World.size_setCell];omega,fun b hb n1 n2 n3 n4 n5=>?_,HFK.out,fun g hg=>?_⟩
     ·rw[heap_setCell_other _ _ b _ n1,cO.block b (by omega) (fun e=>n5 e.symm),(aj w1 (.cells #[.slice a k cap] 24)).block b (by omega)]
      exact Xr.out b hb n2 n3 n4
     ·rcases qK with e | e
      ·exact .inl (e▸hg)
      ·rw[e] at hg;cases hg;exact .inr (by omega)
    have nZ:∀ b,(inn b∨∃ ad,a=some ad∧ad.block=b)→b<w.heap.size∧b≠bp∧b≠B.tb∧b≠mb∧kv.ownBlock≠some b∧B.sv.ownBlock≠some b∧B.nv.ownBlock≠some b:=by
     rintro b (hb | ⟨ad,ha,rfl⟩)
     ·exact⟨h0.zf b hb,fun e=>h0.pF.1 (e▸hb),fun e=>h0.pF.2.1 (e▸hb),fun e=>h0.pF.2.2 (e▸hb),fun e=>h0.GI b e hb,fun e=>h0.GK b e hb,fun e=>h0.GL b e hb⟩
     ·exact HO.out ad ha
    have hsame:∀ b,(inn b∨∃ ad,a=some ad∧ad.block=b)→b<w.heap.size→(w7.setCell ⟨bp,260,none⟩ (.slice a7 (ng.length+1) c7)).heap[b]?=w.heap[b]?:=fun b hb hlt=>by
     obtain⟨_,m1,m2,m3,m4,m5,_⟩:=nZ b hb
     exact hkn.block b hlt m1 m2 m3 m4 m5
    have hLV:dD (w7.setCell ⟨bp,260,none⟩ (.slice a7 (ng.length+1) c7)) (fun b=>inn b∨∃ ad,a=some ad∧ad.block=b) (.slice a k cap) aI l :=
     ⟨HL.out.Au fun ad e hlt=>hsame _ (.inr ⟨ad,e,rfl⟩) hlt,fun ad n' c' e=>.inr ⟨ad,(Value.slice.inj e).1,rfl⟩⟩
    have LC:∀ g,B.nv.ownBlock=some g→(w7.setCell ⟨bp,260,none⟩ (.slice a7 (ng.length+1) c7)).heap[g]?=w.heap[g]?:=fun g hg=>by
     obtain⟨rn,aeR,_,_⟩:=h0.nexts
     have hgb:=aeR.blk hg
     refine hkn.block g hgb.2 (by omega) (by omega) (by omega) (fun e=>?_) (fun e=>h0.sn g e hg)
     obtain⟨_,c1,b1⟩:=aeR.block g hg
     obtain⟨_,c2,b2⟩:=h0.tab.own.block g e
     exact absurd (b1.jC b2) (by decide)
    have hsz:=hkn.size
    refine⟨by rw[e1];rfl,kv',_,?_,hkn⟩
    rw[e1]
    obtain⟨rn,hrn,_,_⟩:=h0.nexts
    have htab:TabAt (w7.setCell ⟨bp,260,none⟩ (.slice a7 (ng.length+1) c7)) B.tb mb base kv' ((sets++[l]).map (keyOf B.st)):=by
     rw[List.map_append]
     exact⟨(zh.box.grown UQ cO htl.1).other _ _ (fun e=>hlt0.2.1 e.symm),(zh.mp.same (cO.block mb zh.mp.lt fun e=>by have:=(UQ.blk e.symm).1;omega)).other _ _ (fun e=>hlt0.2.2 e.symm),(zh.own.iG UQ cO (by decide)).other ⟨bp,260,none⟩ _ hlt0.1,htl⟩
    refine⟨?_,htab,?_,h0.nexts.same (fun b hb hlt=>hsame b (.inl hb) hlt) (fun b hb=>.inl hb) LC,?_,?_,?_,?_,?_,?_,?_,hlt0,h0.small,by rw[World.size_setCell];omega⟩
    ·have:=hb7.set 260 (.slice a7 (ng.length+1) c7)
     rwa[QY] at this
    ·refine nJ.snoc (rows:=ng) (x:=(a,k,cap)) (iy.other _ _ hlt0.1) D6.out (fun i p q=>?_) (l:=l) (a:=a) (c:=cap) (by rw[ru.out]) (by rw[←ru.out];exact hLV)
     obtain⟨ad,c',m1,m2⟩:=HRE.out i p q
     exact⟨ad,c',m1,m2.same (fun b hb hlt=>hsame b (.inl hb) hlt) (fun b hb=>.inl hb)⟩
    ·intro x hx
     rcases List.mem_append.1 hx with hx | hx
     ·exact h0.yZ x hx
     ·rw[List.mem_singleton] at hx;subst hx;exact HS.out
    ·intro b hb
     have:=(nZ b hb).1;omega
    ·exact⟨fun hb=>(nZ _ hb).2.1 rfl,fun hb=>(nZ _ hb).2.2.1 rfl,fun hb=>(nZ _ hb).2.2.2.1 rfl⟩
    ·intro g hg hb
     rcases hkn.XK g hg with e | e
     ·exact(nZ g hb).2.2.2.2.1 e
     ·have:=(nZ g hb).1;omega
    ·intro g hg hb
     rcases hkn.O5 g hg with e | e
     ·exact(nZ g hb).2.2.2.2.2.1 e
     ·have:=(nZ g hb).1;omega
    ·intro g hg hb
     exact(nZ g hb).2.2.2.2.2.2 hg
    ·intro g hg hn
     rcases hkn.O5 g hg with e | e
     ·exact h0.sn g e hn
     ·have:=(hrn.blk hn).2;omega
end
section
open Go.RowKit
abbrev wJ(x:List UInt8×Vt):List UInt8×Tr:=(x.1,x.2.tr)
def yh(L:List (List UInt8×Tr))(i:Nat):Bool:=match L[i]? with
 | none=>true
 | some x=>wQ x.1&&!((L.take i).map (·.1)).contains x.1&&iw x.2
def nV(L:List (List UInt8×Tr))(k:Nat):Bool:=(List.range k).all (yh L)
def qo(L:List (List UInt8×Tr)):Bool:=decide (L.length≤64)&&nV L L.length
theorem O7(L:List (List UInt8×Tr))(k:Nat):nV L (k+1)=(nV L k&&yh L k):=by
 unfold nV;rw[List.range_succ,List.all_append];simp
theorem ML(L:List (List UInt8×Tr))(k n:Nat)(hk:k<n)(h:yh L k=false):nV L n=false:=by
 unfold nV
 rw[List.all_eq_false]
 exact⟨k,by simpa using hk,by simp[h]⟩
theorem LD(Rs:List (List UInt8×Vt))(k:Nat)(h:k<Rs.length):yh (Rs.map wJ) k=(wQ Rs[k].1&&!((Rs.take k).map (·.1)).contains Rs[k].1&&iw Rs[k].2.tr):=by
 unfold yh
 rw[List.getElem?_map,List.getElem?_eq_getElem h]
 show(wQ Rs[k].1&&!(((Rs.map wJ).take k).map (·.1)).contains Rs[k].1&&iw Rs[k].2.tr)=_
 rw[←List.map_take,List.map_map]
 rfl
theorem Ja(a:Option Addr)(cap n:Nat)(Rs:List (List UInt8×Vt))(w:World)(h:ak w (.slice a n cap) 9 iD Rs)(hL:∀ i (h:i<Rs.length),Lies w Rs[i].2)(hnm:∀ x∈Rs,x.1.length≤9223372036854775807) :
  Calls Tryz.prog 99 #[.slice a n cap] w (bV w (.bool (qo (Rs.map wJ)))):=by
 obtain⟨b,o,hn,hcap,hcap2,ha,hx⟩:=h.open
 have hmm:=@run_makeMap Tryz.prog
 have hz:=La
 have hans:qo (Rs.map wJ)=(decide (n≤64)&&nV (Rs.map wJ) n):=by unfold qo;rw[List.length_map,hn]
 rw[hans]
 by_cases h64:64<n
 ·have e1:decide (n≤64)=false:=by simp;omega
  rw[e1]
  have aja:(64:Int)<(n:Int):=by omega
  clear hn hcap hx ha h hL hnm hans e1 h64
  go_enter Tryz.func99,Tryz.ntmps99
  go_wp2
  go_ret
  exact⟨rfl,Below.refl _ _⟩
 ·have e1:decide (n≤64)=true:=by simp;omega
  rw[e1,Bool.true_and]
  have ajb:decide ((64:Int)<(n:Int))=false:=by simp;omega
  have HX:=ah hx
  have HA:=ah ha
  have HN:=ah hn
  have HL:=ah hL
  have vV:=ah hnm
  have o8:n≤64:=by omega
  have hm0:=aG.new w (fun s:List UInt8=>sv s)
  have hb0:=aj w (.map #[] 0)
  obtain⟨ANS,hA⟩:∃ ANS,nV (Rs.map wJ) n=ANS:=⟨_,rfl⟩
  rw[hA]
  have jR:=ah hA
  clear hx ha hn hL hnm h hans hA e1 h64
  go_enter Tryz.func99,Tryz.ntmps99
  go_wp2
  go_loopw [12] (fun i wr=>∃ k:Nat,k≤n∧i=.int .i64 k∧nV (Rs.map wJ) k=true∧aG wr w.heap.size (fun s:List UInt8=>sv s) (sN (Rs.take k))∧Below w.heap.size w wr) (fun i _=>n - (intOf i).toNat)
  case atStart=>exact⟨0,Nat.zero_le _,rfl,rfl,hm0,hb0⟩
  case round =>
   clear hm0 hb0
   obtain⟨k,hk,rfl,hok,hM,hB⟩:=hrel
   by_cases hlt:k<n
   ·have hk2:k<Rs.length:=by rw[←HN.out];exact hlt
    obtain rfl:=HA.out k hk2
    have hy:∀ j u,(iD Rs[k])[j]?=some u→wr.cell? ⟨b,o+k*9+j,none⟩=some u:=fun j u hu=>by
     have:=HX.out k hk2 j u hu
     rw[hB.cell (World.block_lt_of_cell? w _ this)];exact this
    have hsucc:=O7 (Rs.map wJ) k
    rw[hok,Bool.true_and,LD Rs k hk2] at hsucc
    have hfalse:=fun(hf:yh (Rs.map wJ) k=false)=>ML (Rs.map wJ) k n hlt hf
    rw[LD Rs k hk2] at hfalse
    have htk:Rs.take (k+1)=Rs.take k++[Rs[k]]:=List.take_succ_eq_append_getElem hk2
    have xK:=HL.out k hk2
    have hnn:=vV.out _ (List.getElem_mem hk2)
    have wF:=ah htk
    clear htk
    generalize Rs[k]=x at *
    obtain⟨nm,⟨k5,s5,a5,cp5,bI,bJ,hi5⟩⟩:=x
    have y0:=hy 0 _ rfl
    have y1:=hy 1 _ rfl
    have y2:=hy 2 _ rfl
    have y3:=hy 3 _ rfl
    have y4:=hy 4 _ rfl
    have y5:=hy 5 _ rfl
    have y6:=hy 6 _ rfl
    have y7:=hy 7 _ rfl
    have y8:=hy 8 _ rfl
    have hbl:=World.block_lt_of_cell? wr _ y0
    simp only[Nat.add_zero] at y0
    have hki:(k:Int)<(n:Int):=by omega
    have hk0:(0:Int)≤(k:Int):=by omega
    have HLW:=ah xK
    have hname:=fun u=>KR nm u hnn
    have hlook:=xZ nm (Rs.take k)
    have hbx:Box (wr.alloc (.cells (iD (nm,.mk k5 s5 a5 cp5 bI bJ hi5)).toArray 153)) wr.heap.size #[sv nm,.int .i64 k5,.int .u64 (word s5 0:Nat),.int .u64 (word s5 1:Nat),.int .u64 (word s5 2:Nat),.int .u64 (word s5 3:Nat),.slice a5 bI.length cp5,.int .i64 bJ,.int .i64 hi5] 153:=Box.new wr _ _
    clear hy hnn xK
    generalize hcc:((Rs.take k).map (·.1)).contains nm=q at *
    dsimp only at hsucc hfalse
    have xM:=ah hsucc
    have Am:=ah hfalse
    have um:=ah hname
    have Jb:=ah hlook
    clear hsucc hfalse hname hlook
    have hB1:=hB.trans ((aj wr (.cells (iD (nm,.mk k5 s5 a5 cp5 bI bJ hi5)).toArray 153)).mono hB.size)
    have hM:=hM
    cases hn:wQ nm with
    | false =>
     rw[hn] at um Am
     have hans:ANS=false:=by rw[←jR.out];exact Am.out rfl
     subst hans
     clear hn
     go_wp2_with (go_at_call 62;go_must (refine(um.out _).mono ?_;rintro e w2 ⟨rfl,hb2⟩;have hx2:=hbx.kept hb2;have hM2:=(hM.alloc (.cells (iD (nm,.mk k5 s5 a5 cp5 bI bJ hi5)).toArray 153)).kept hb2;have hlk:=jX hM2 kT Tryz.underlying137 (hz w2) nm;rw[Jb.out] at hlk;have hB2:=hB1.trans (hb2.mono hB1.size);have z0:w2.cell? ⟨wr.heap.size,0,none⟩=some (sv nm):=hx2.cell 0;have z1:w2.cell? ⟨wr.heap.size,1,none⟩=some (.int .i64 k5):=hx2.cell 1;have z2:w2.cell? ⟨wr.heap.size,2,none⟩=some (.int .u64 (word s5 0:Nat)):=hx2.cell 2;have z3:w2.cell? ⟨wr.heap.size,3,none⟩=some (.int .u64 (word s5 1:Nat)):=hx2.cell 3;have z4:w2.cell? ⟨wr.heap.size,4,none⟩=some (.int .u64 (word s5 2:Nat)):=hx2.cell 4;have z5:w2.cell? ⟨wr.heap.size,5,none⟩=some (.int .u64 (word s5 3:Nat)):=hx2.cell 5;have z6:w2.cell? ⟨wr.heap.size,6,none⟩=some (.slice a5 bI.length cp5):=hx2.cell 6;have z7:w2.cell? ⟨wr.heap.size,7,none⟩=some (.int .i64 bJ):=hx2.cell 7;have z8:w2.cell? ⟨wr.heap.size,8,none⟩=some (.int .i64 hi5):=hx2.cell 8))
     go_ret
     exact⟨rfl,hB2⟩
    | true =>
     rw[hn] at um Am xM
     cases q with
     | true =>
      have hans:ANS=false:=by rw[←jR.out];exact Am.out rfl
      subst hans
      clear hn
      go_wp2_with (go_at_call 62;go_must (refine(um.out _).mono ?_;rintro e w2 ⟨rfl,hb2⟩;have hx2:=hbx.kept hb2;have hM2:=(hM.alloc (.cells (iD (nm,.mk k5 s5 a5 cp5 bI bJ hi5)).toArray 153)).kept hb2;have hlk:=jX hM2 kT Tryz.underlying137 (hz w2) nm;rw[Jb.out] at hlk;have hB2:=hB1.trans (hb2.mono hB1.size);have z0:w2.cell? ⟨wr.heap.size,0,none⟩=some (sv nm):=hx2.cell 0;have z1:w2.cell? ⟨wr.heap.size,1,none⟩=some (.int .i64 k5):=hx2.cell 1;have z2:w2.cell? ⟨wr.heap.size,2,none⟩=some (.int .u64 (word s5 0:Nat)):=hx2.cell 2;have z3:w2.cell? ⟨wr.heap.size,3,none⟩=some (.int .u64 (word s5 1:Nat)):=hx2.cell 3;have z4:w2.cell? ⟨wr.heap.size,4,none⟩=some (.int .u64 (word s5 2:Nat)):=hx2.cell 4;have z5:w2.cell? ⟨wr.heap.size,5,none⟩=some (.int .u64 (word s5 3:Nat)):=hx2.cell 5;have z6:w2.cell? ⟨wr.heap.size,6,none⟩=some (.slice a5 bI.length cp5):=hx2.cell 6;have z7:w2.cell? ⟨wr.heap.size,7,none⟩=some (.int .i64 bJ):=hx2.cell 7;have z8:w2.cell? ⟨wr.heap.size,8,none⟩=some (.int .i64 hi5):=hx2.cell 8))
      go_ret
      exact⟨rfl,hB2⟩
     | false =>
      cases hr:iw (Vt.mk k5 s5 a5 cp5 bI bJ hi5).tr with
      | false =>
       have hans:ANS=false:=by rw[←jR.out];exact Am.out (by rw[hr];rfl)
       subst hans
       have HRR:=ah hr
       clear hn hr
       go_wp2_with (first | (go_at_call 62;go_must (refine(um.out _).mono ?_;rintro e w2 ⟨rfl,hb2⟩;have hx2:=hbx.kept hb2;have hM2:=(hM.alloc (.cells (iD (nm,.mk k5 s5 a5 cp5 bI bJ hi5)).toArray 153)).kept hb2;have hlk:=jX hM2 kT Tryz.underlying137 (hz w2) nm;rw[Jb.out] at hlk;have hB2:=hB1.trans (hb2.mono hB1.size);have z0:w2.cell? ⟨wr.heap.size,0,none⟩=some (sv nm):=hx2.cell 0;have z1:w2.cell? ⟨wr.heap.size,1,none⟩=some (.int .i64 k5):=hx2.cell 1;have z2:w2.cell? ⟨wr.heap.size,2,none⟩=some (.int .u64 (word s5 0:Nat)):=hx2.cell 2;have z3:w2.cell? ⟨wr.heap.size,3,none⟩=some (.int .u64 (word s5 1:Nat)):=hx2.cell 3;have z4:w2.cell? ⟨wr.heap.size,4,none⟩=some (.int .u64 (word s5 2:Nat)):=hx2.cell 4;have z5:w2.cell? ⟨wr.heap.size,5,none⟩=some (.int .u64 (word s5 3:Nat)):=hx2.cell 5;have z6:w2.cell? ⟨wr.heap.size,6,none⟩=some (.slice a5 bI.length cp5):=hx2.cell 6;have z7:w2.cell? ⟨wr.heap.size,7,none⟩=some (.int .i64 bJ):=hx2.cell 7;have z8:w2.cell? ⟨wr.heap.size,8,none⟩=some (.int .i64 hi5):=hx2.cell 8)) | (go_at_call 140;go_must (refine(Bg (.mk k5 s5 a5 cp5 bI bJ hi5) _ (HLW.out.kept hB2)).mono ?_;rintro e w3 ⟨rfl,hb3⟩;have hB3:=hB2.trans (hb3.mono hB2.size);rw[HRR.out])))
       go_ret
       exact⟨rfl,hB3⟩
      | true =>
       have hsu:=xM.out
       rw[hr] at hsu
       have Fg:=ah hsu
       have HRR:=ah hr
       clear hn hr hsu
       go_wp2_with (first | (go_at_call 62;go_must (refine(um.out _).mono ?_;rintro e w2 ⟨rfl,hb2⟩;have hx2:=hbx.kept hb2;have hM2:=(hM.alloc (.cells (iD (nm,.mk k5 s5 a5 cp5 bI bJ hi5)).toArray 153)).kept hb2;have hlk:=jX hM2 kT Tryz.underlying137 (hz w2) nm;rw[Jb.out] at hlk;have hB2:=hB1.trans (hb2.mono hB1.size);have z0:w2.cell? ⟨wr.heap.size,0,none⟩=some (sv nm):=hx2.cell 0;have z1:w2.cell? ⟨wr.heap.size,1,none⟩=some (.int .i64 k5):=hx2.cell 1;have z2:w2.cell? ⟨wr.heap.size,2,none⟩=some (.int .u64 (word s5 0:Nat)):=hx2.cell 2;have z3:w2.cell? ⟨wr.heap.size,3,none⟩=some (.int .u64 (word s5 1:Nat)):=hx2.cell 3;have z4:w2.cell? ⟨wr.heap.size,4,none⟩=some (.int .u64 (word s5 2:Nat)):=hx2.cell 4;have z5:w2.cell? ⟨wr.heap.size,5,none⟩=some (.int .u64 (word s5 3:Nat)):=hx2.cell 5;have z6:w2.cell? ⟨wr.heap.size,6,none⟩=some (.slice a5 bI.length cp5):=hx2.cell 6;have z7:w2.cell? ⟨wr.heap.size,7,none⟩=some (.int .i64 bJ):=hx2.cell 7;have z8:w2.cell? ⟨wr.heap.size,8,none⟩=some (.int .i64 hi5):=hx2.cell 8)) | (go_at_call 140;go_must (refine(Bg (.mk k5 s5 a5 cp5 bI bJ hi5) _ (HLW.out.kept hB2)).mono ?_;rintro e w3 ⟨rfl,hb3⟩;have hB3:=hB2.trans (hb3.mono hB2.size);rw[HRR.out];have hx3:=hx2.kept hb3;have x0:w3.cell? ⟨wr.heap.size,0,none⟩=some (sv nm):=hx3.cell 0;obtain⟨w4,hput,hm4,qL,Bl,zI⟩:=(hM2.kept hb3).pW kT Tryz.underlying137 nm (.bool true))))
       have hB4:=hB3.trans (zI w.heap.size (Nat.le_refl _))
       have hm5:aG w4 w.heap.size (fun s:List UInt8=>sv s) (sN (Rs.take (k+1))):=by
        rw[jK] at hm4
        ·rw[wF.out,sN,List.map_append];exact hm4
        ·cases hlk2:look nm (sN (Rs.take k)) with
         | none=>rfl
         | some z =>
          obtain⟨p,hp,hpe⟩:=BD hlk2
          rw[sN,List.mem_map] at hp
          obtain⟨q,_,rfl⟩:=hp
          have h9:=Jb.out
          rw[hlk2] at h9
          cases hpe
          cases h9
       refine⟨⟨k+1,hlt,by push_cast;rfl,Fg.out,hm5,hB4⟩,by simp[intOf];omega⟩
   ·obtain rfl:k=n:=by omega
    have hans:ANS=true:=by rw[←jR.out];exact hok
    subst hans
    clear hM
    go_wp2
    go_ret
    exact⟨rfl,hB⟩
end
section
open Go.RowKit
structure Y3 where
 l:Value
 e:Value
 a:Value
def Y3.has(V:Y3)(b:Nat):Prop:=V.l.ownBlock=some b∨V.e.ownBlock=some b∨V.a.ownBlock=some b
def Jc(x:Nat×Nat):List Value:=[.int .i64 x.1,.int .i64 x.2]
def fD(x:Nat×ay×Nat):List Value:=[.int .i64 x.1,.int .u64 (word x.2.1 0:Nat),.int .u64 (word x.2.1 1:Nat),.int .u64 (word x.2.1 2:Nat),.int .u64 (word x.2.1 3:Nat),.int .i64 x.2.2]
theorem O8:eH Jc 2:=⟨fun _=>rfl,fun x u hu=>by simp[Jc] at hu;rcases hu with rfl | rfl <;> rfl⟩
theorem uK:eH fD 6:=⟨fun _=>rfl,fun x u hu=>by simp[fD] at hu;rcases hu with rfl | rfl | rfl | rfl | rfl | rfl <;> rfl⟩
theorem XL:dQ Tryz.prog 154 269 (.agg #[.int .i64 0,.int .i64 0]) 2 16:=⟨Tryz.underlying154,info_parts (by kernel_rfl),rfl,by decide⟩
theorem LG:dQ Tryz.prog 155 276 (.agg #[.int .i64 0,.int .u64 0,.int .u64 0,.int .u64 0,.int .u64 0,.int .i64 0]) 6 48:=⟨Tryz.underlying155,info_parts (by kernel_rfl),rfl,by decide⟩
structure fH(w:World)(r base:Nat)(N:Nf)(V:Y3):Prop where
 box:Box w r #[.int .i64 N.states,.int .i64 0,V.l,V.e,V.a] 216
 li:Own w base 269 2 Jc V.l N.links
 ed:Own w base 276 6 fD V.e N.edges
 ac:Own w base 3 1 aI V.a N.accept
 lt:r<base
 st:N.states=N.accept.length
theorem fH.kept{w w':World}{r base:Nat}{N:Nf}{V:Y3}(h:fH w r base N V)(hb:Below w.heap.size w w'):fH w' r base N V :=
 ⟨h.box.kept hb,h.li.kept hb,h.ed.kept hb,h.ac.kept hb,h.lt,h.st⟩
theorem fH.hasLt{w:World}{r base:Nat}{N:Nf}{V:Y3}(h:fH w r base N V)(g:Nat)(hg:V.has g):base≤g∧g<w.heap.size:=by
 rcases hg with hg | hg | hg
 ·exact h.li.bY g hg
 ·exact h.ed.bY g hg
 ·exact h.ac.bY g hg
structure Turned(r:Nat)(V V':Y3)(w w':World):Prop where
 os:w'.os=w.os
 tape:w'.tape=w.tape
 output:w'.output=w.output
 size:w.heap.size≤w'.heap.size
 block:∀ b,b<w.heap.size→b≠r→¬ V.has b→w'.heap[b]?=w.heap[b]?
 new:∀ g,V'.has g→V.has g∨w.heap.size≤g
theorem Turned.below{r:Nat}{V:Y3}{w w':World}(h:Below w.heap.size w w'):Turned r V V w w':=⟨h.os,h.tape,h.output,h.size,fun b hb _ _=>h.block b hb,fun _ hg=>.inl hg⟩
theorem Turned.trans{r:Nat}{V V1 V2:Y3}{a b c:World}(h:Turned r V V1 a b)(k:Turned r V1 V2 b c):Turned r V V2 a c :=
 ⟨k.os.trans h.os,k.tape.trans h.tape,k.output.trans h.output,Nat.le_trans h.size k.size,fun x hx hr hg=>(k.block x (Nat.lt_of_lt_of_le hx h.size) hr fun e=>by
  rcases h.new x e with h1 | h1
  ·exact hg h1
  ·omega).trans (h.block x hx hr hg),fun g hg=>by
  rcases k.new g hg with h1 | h1
  ·exact h.new g h1
  ·exact .inr (Nat.le_trans h.size h1)⟩
theorem Turned.box{r:Nat}{V V':Y3}{w w':World}{b:Nat}{c:Array Value}{E:TypeId}(h:Turned r V V' w w')(hx:Box w b c E)(hr:b≠r)(hv:¬ V.has b):Box w' b c E:=(h.block b hx.lt hr hv).trans hx
def Na(r base:Nat)(V:Y3)(N:Nf)(w:World)(u:Value)(e:Ending)(w':World):Prop:=e=.returned u∧∃ V',fH w' r base N V'∧Turned r V V' w w'
section
variable {w w1 w':World} {r base:Nat} {N:Nf} {V:Y3}
theorem fH.acc(h:fH w1 r base N V){k:Nat}{a':Option Addr}{cap':Nat}(ho:Own w' base 3 1 aI (.slice a' (N.accept.length+1) cap') (N.accept++[k]))(hg:w1.grownBy w' V.a.ownBlock) :
  fH ((w'.setCell ⟨r,4,none⟩ (.slice a' (N.accept.length+1) cap')).setCell ⟨r,0,none⟩ (.int .i64 ((N.states:Int)+1))) r base (N.state k) ⟨V.l,V.e,.slice a' (N.accept.length+1) cap'⟩:=by
 have hb:=(h.box.grown h.ac hg h.lt)
 refine⟨((hb.set 4 _).set 0 _),?_,?_,?_,h.lt,?_⟩
 ·exact((h.li.iG h.ac hg (by decide)).other _ _ h.lt).other _ _ h.lt
 ·exact((h.ed.iG h.ac hg (by decide)).other _ _ h.lt).other _ _ h.lt
 ·exact(ho.other _ _ h.lt).other _ _ h.lt
 ·show N.states+1=(N.accept++[k]).length
  rw[List.length_append,h.st];rfl
theorem fH.lnk(h:fH w1 r base N V){x:Nat×Nat}{a':Option Addr}{cap':Nat}(ho:Own w' base 269 2 Jc (.slice a' (N.links.length+1) cap') (N.links++[x]))(hg:w1.grownBy w' V.l.ownBlock) :
  fH (w'.setCell ⟨r,2,none⟩ (.slice a' (N.links.length+1) cap')) r base (N.link x.1 x.2) ⟨.slice a' (N.links.length+1) cap',V.e,V.a⟩:=by
 have hb:=(h.box.grown h.li hg h.lt)
 refine⟨hb.set 2 _,ho.other _ _ h.lt,?_,?_,h.lt,h.st⟩
 ·exact(h.ed.iG h.li hg (by decide)).other _ _ h.lt
 ·exact(h.ac.iG h.li hg (by decide)).other _ _ h.lt
theorem Turned.grown{V V':Y3}(v v':Value)(hv:∀ g,v.ownBlock=some g→V.has g)(hg:w.grownBy w' v.ownBlock)(hf:v'.ownBlock=v.ownBlock∨v'.ownBlock=some w.heap.size)(hn:∀ g,V'.has g→V.has g∨v'.ownBlock=some g):Turned r V V' w w' :=
 ⟨hg.os,hg.tape,hg.output,hg.size,fun b hb _ h2=>hg.block b hb fun e=>h2 (hv b e.symm),fun g e=>by
  rcases hn g e with h1 | h1
  ·exact .inl h1
  ·rcases hf with hf | hf
   ·exact .inl (hv g (hf▸h1))
   ·rw[hf] at h1;cases h1;exact .inr (Nat.le_refl _)⟩
theorem Turned.set{V V':Y3}(h:Turned r V V' w w')(i:Nat)(u:Value):Turned r V V' w (w'.setCell ⟨r,i,none⟩ u) :=
 ⟨h.os,h.tape,h.output,(by rw[World.size_setCell];exact h.size),fun b hb h1 h2=>(heap_setCell_other w' ⟨r,i,none⟩ b u h1).trans (h.block b hb h1 h2),h.new⟩
end
theorem pG(r base k:Nat)(N:Nf)(V:Y3)(w:World)(h:fH w r base N V)(hb:base≤w.heap.size)(hN:N.accept.length≤1099511627776) :
  Calls Tryz.prog 144 #[.pointer (some ⟨r,0,none⟩),.int .i64 k] w (Na r base V (N.state k) w (.int .i64 N.states)):=by
 have hB0:=aj w (.cells #[.int .i64 k] 3)
 have h0:=h.kept hB0
 have hx0:=h0.box
 have z4:(w.alloc (.cells #[.int .i64 k] 3)).cell? ⟨r,4,none⟩=some V.a:=hx0.cell 4
 have y4:w.cell? ⟨r,4,none⟩=some V.a:=h.box.cell 4
 have hrl:=h.box.lt
 obtain⟨aa,ca,hva⟩:=h.ac.form
 have hst:=h.st
 have ane:N.states≤1099511627776:=by rw[hst];exact hN
 have H0:=ah h0
 rw[hva] at z4 y4
 have HV:=ah hva
 have O9:=h0.ac
 rw[hva] at O9
 clear h h0 hst hx0
 go_enter Tryz.func144,Tryz.ntmps144
 go_wp2_with (at_builtin;go_must (refine dS rfl _ _ 24 rfl Du dF rfl O9 ⟨w.heap.size,0,none⟩ 1 k rfl (cZ w [.int .i64 k] _) (by simp[maxLen];omega) (by omega) (by simp;omega) ?_;intro a7 c7 w7 iy cO qK;have yj:(w.alloc (.cells #[.int .i64 k] 3)).grownBy w7 V.a.ownBlock:=(by rw[HV.out];exact cO);have hx7:=H0.out.box.grown H0.out.ac yj H0.out.lt;have z7:w7.cell? ⟨r,4,none⟩=some V.a:=hx7.cell 4;have z8:w7.cell? ⟨r,0,none⟩=some (.int .i64 N.states):=hx7.cell 0;have f7:=hx7.free 4;have f8:=hx7.free 0;have l7:=hx7.lt))
 go_ret
 refine⟨rfl,_,H0.out.acc iy yj,?_⟩
 refine(((Turned.below hB0).trans (Turned.grown V.a (.slice a7 (N.accept.length+1) c7) (fun g hg=>.inr (.inr hg)) yj (by rw[HV.out];exact qK) ?_)).set 4 _).set 0 _
 rintro g (hg | hg | hg)
 ·exact .inl (.inl hg)
 ·exact .inl (.inr (.inl hg))
 ·exact .inr hg
end
section
open Go.RowKit
structure wE(w:World)(h n:Nat)(st:Nat×List Nat):Prop where
 bq:Box w (h+2) #[.pointer (some ⟨h+1,0,none⟩)] 353
 bits:fB w (h+1) h n st.1
 wq:∃ a cap,Box w (h+3) #[.slice a st.2.length cap] 24∧iW w (h+4) 3 (.slice a st.2.length cap) st.2
 size:h+4≤w.heap.size
theorem wE.kept{w w':World}{h n:Nat}{st:Nat×List Nat}(H:wE w h n st)(hb:Below w.heap.size w w'):wE w' h n st:=by
 obtain⟨a,cap,h1,h2⟩:=H.wq
 exact⟨H.bq.kept hb,H.bits.kept hb,⟨a,cap,h1.kept hb,h2.kept hb⟩,Nat.le_trans H.size hb.size⟩
def wordAt(w:World)(g k:Nat):Nat:=match w.cell? ⟨g,k,none⟩ with | some (.int _ x)=>x.toNat | _=>0
def UR(w:World)(b:Nat):Nat:=match w.cell? ⟨b,0,none⟩ with | some (.slice _ n _)=>n | _=>0
def UU(w:World)(h n:Nat):Nat:=UR w (h+3)+((List.range n).filter fun i=>!(wordAt w h (i / 64)).testBit (i % 64)).length
theorem wE.pot{w:World}{h n:Nat}{st:Nat×List Nat}(H:wE w h n st):UU w h n=st.2.length+lacks n st.1:=by
 obtain⟨a,cap,h1,_⟩:=H.wq
 unfold UU
 have e1:UR w (h+3)=st.2.length:=by
  unfold UR
  rw[show w.cell? ⟨h+3,0,none⟩=some (.slice a st.2.length cap) from h1.cell 0]
 rw[e1]
 congr 1
 unfold lacks
 congr 1
 refine List.filter_congr fun i hi=>?_
 rw[List.mem_range] at hi
 have e2:wordAt w h (i / 64)=dH st.1 (i / 64):=by
  unfold wordAt
  rw[show w.cell? ⟨h,i / 64,none⟩=some (.int .u64 (dH st.1 (i / 64):Nat)) from(H.bits.words.cell _).trans (mX _ _ _ (by unfold bQ;omega))]
  simp
 rw[e2,qZ,decide_eq_true (Nat.mod_lt _ (by decide)),Bool.true_and,show 64*(i / 64)+i % 64=i by omega]
theorem aP.aeS{g B:Nat}{w w':World}(h:aP g w w')(hg:B≤g)(hs:B≤w.heap.size):Below B w w':=⟨h.os,h.tape,h.output,h.size,fun b hb=>h.block b (by omega) (by omega)⟩
def aeT(h n:Nat)(st:Nat×List Nat)(v:Value)(w:World)(e:Ending)(w':World):Prop:=e=.returned v∧wE w' h n st∧Below h w w'
theorem Sj(h n s:Nat)(st:Nat×List Nat)(w:World)(H:wE w h n st)(hs:s≤1099511627776)(hl:st.2.length≤1048576) :
  Calls Tryz.prog 309 #[.int .i64 s,.pointer (some ⟨h+2,0,none⟩),.pointer (some ⟨h+3,0,none⟩)] w (aeT h n (iV n st s) (.tuple #[]) w):=by
 have hp:=NR (h+1) h n st.1 s w H.bits hs
 have x0:w.cell? ⟨h+2,0,none⟩=some (.pointer (some ⟨h+1,0,none⟩)):=H.bq.cell 0
 obtain⟨a,cap,hb,ho⟩:=H.wq
 have hsz:=H.size
 by_cases hin:s<n∧st.1.testBit s=false
 ·have hpw:iV n st s=(st.1 ||| 1 <<< s,st.2++[s]):=by unfold iV;rw[if_pos hin]
  rw[hpw]
  have HP:Hid (∀ (R:Ending→World→Prop),(∀ w2,fB w2 (h+1) h n (st.1 ||| 1 <<< s)→aP h w w2→R (.returned (.bool true)) w2)→Calls Tryz.prog 284 #[.pointer (some ⟨h+1,0,none⟩),.int .i64 s] w R):=ah fun R hR=>hp.mono fun e w2 h2=>by
   unfold lT at h2
   rw[if_pos hin] at h2
   obtain⟨rfl,h3,h4⟩:=h2
   exact hR w2 h3 h4
  have HH:=ah H;have HB:=ah hb;have HO:=ah ho
  clear hp H hb ho hpw
  obtain⟨S,ws⟩:=st
  dsimp only at *
  go_enter Tryz.func309,Tryz.ntmps309
  go_wp2_with (first | (go_at_call 284;go_must (refine HP.out _ ?_;intro w2 hB2 hg2;have hbx2:=hg2.box HB.out (by omega);have ho2:=HO.out.same (w':=w2) (fun b hb1 hb2=>hg2.block b hb2 (by omega));have hs2:=hg2.size;have z0:=hbx2.cell 0;have f0:=hbx2.free 0;have l0:=hbx2.lt)) | (at_builtin;go_must (refine JV rfl _ _ 24 rfl iJ rfl (ho2.kept (aj _ _)) (by simp only[World.size_alloc];omega) ⟨w2.heap.size,0,none⟩ 1 s rfl ((Box.new w2 _ _).cell 0) (by omega) ?_;intro a7 c7 w7 iy cO;have ho3:=ho2.kept (aj w2 (.cells #[.int .i64 s] 3));have lZ:=ho3.box (hbx2.alloc (.cells #[.int .i64 s] 3)) cO (by omega);have z7:=lZ.cell 0;have f7:=lZ.free 0;have l7:=lZ.lt))
  )
  go_end0
  have hB3:=hB2.kept (aj w2 (.cells #[.int .i64 s] 3))
  have hq3:=(hg2.box HH.out.bq (by omega)).kept (aj w2 (.cells #[.int .i64 s] 3))
  have ajn:=cO.size
  simp only[World.size_alloc] at ajn
  refine⟨rfl,⟨(ho3.box hq3 cO (by omega)).other _ _ (by simp),⟨(ho3.box hB3.box cO (by omega)).other _ _ (by simp),(ho3.box hB3.words cO (by omega)).other _ _ (by simp),hB3.lt,hB3.ne⟩,⟨a7,c7,?_,?_⟩,?_⟩,?_⟩
  ·rw[List.length_append,List.length_singleton];exact lZ.set 0 _
  ·rw[List.length_append,List.length_singleton];exact iy.other _ _ (by simp)
  ·rw[World.size_setCell];omega
  ·exact(((hg2.aeS (Nat.le_refl _) (by omega)).trans ((aj w2 (.cells #[.int .i64 s] 3)).mono (by omega))).grown cO (by simp only[World.size_alloc];omega) (fun k e=>by have:=(ho3.row k e).1;omega)).setCell (by simp) _
 ·have hpw:iV n st s=st:=by unfold iV;rw[if_neg hin]
  rw[hpw]
  have HP:Hid (Calls Tryz.prog 284 #[.pointer (some ⟨h+1,0,none⟩),.int .i64 s] w fun e w2=>e=.returned (.bool false)∧w2=w):=ah (hp.mono fun e w2 h2=>by
   unfold lT at h2
   rwa[if_neg hin] at h2)
  have HH:=ah H
  clear hp H hb ho hpw
  go_enter Tryz.func309,Tryz.ntmps309
  go_wp2_with (go_at_call 284;go_must (refine HP.out.mono ?_;rintro e w2 ⟨rfl,rfl⟩))
  go_end0
  exact⟨rfl,HH.out,Below.refl _ _⟩
end
end Go.Proofs.YtbemonecmmnlcaaGreatDoor
