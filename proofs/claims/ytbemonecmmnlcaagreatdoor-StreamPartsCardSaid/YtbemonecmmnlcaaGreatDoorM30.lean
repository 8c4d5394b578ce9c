/- The texts of S30, in few letters (mini.py). -/
import Derived.Test.YtbemonecmmnlcaaGreatDoorM29
import Derived.Deep.Upon
set_option linter.unusedVariables false
set_option linter.unusedSimpArgs false
set_option maxRecDepth 20000
set_option maxHeartbeats 3200000
namespace Go.Proofs.YtbemonecmmnlcaaGreatDoor
section
open Go.RowKit
def kU(T:List UInt8):List (List UInt8×Tr):=match sS T with | .inr R=>R | .inl _=>[]
def vk(T:List UInt8)(most:Nat):aF:=match yD (kU T) most with | .inr D=>D | .inl _=>⟨fun _=>0,0,[],[],[]⟩
def Nj(T:List UInt8)(most:Nat):Bool:=(sS T).isRight&&((yD (kU T) most).isRight&&((kU T).all (fun x=>decide (x.1.length≤9223372036854775807))&&(decide (T.length≤65536)&&(decide (1≤most)&&(decide (most≤65536)&&(o9 (vk T most)&&(vk T most).names.all (fun x=>decide (x.length≤9223372036854775807))))))))
theorem aa5{T:List UInt8}(h:(sS T).isRight=true):sS T=.inr (kU T):=by
 unfold kU
 cases hs:sS T with
 | inl q=>rw[hs] at h;cases h
 | inr R=>rfl
theorem YC{T:List UInt8}{most:Nat}(h:(yD (kU T) most).isRight=true):yD (kU T) most=.inr (vk T most):=by
 unfold vk
 cases hs:yD (kU T) most with
 | inl q=>rw[hs] at h;cases h
 | inr R=>rfl
structure xB(w:World)(a:Option Addr)(c:Nat)(Rs:List (List UInt8×Vt))(R:List (List UInt8×Tr)):Prop where
 tr:Rs.map (fun x=>(x.1,x.2.tr))=R
 sl:ak w (.slice a Rs.length c) 9 iD Rs
 lies:∀ i (h:i<Rs.length),Lies w Rs[i].2
theorem xB.kept{w w':World}{a:Option Addr}{c:Nat}{Rs:List (List UInt8×Vt)}{R:List (List UInt8×Tr)}(h:xB w a c Rs R)(hb:Below w.heap.size w w'):xB w' a c Rs R:=⟨h.tr,h.sl.kept hb,fun i hi=>(h.lies i hi).kept hb⟩
theorem Tf(T:List UInt8)(w:World)(hT:T.length≤65536):∃ w1,(convert 35 35 (.slice (some ⟨w.heap.size,0,none⟩) T.length T.length)).run Tryz.prog (w.alloc (.cells (T.flatMap bT).toArray 5))=.ok (.slice (some ⟨w.heap.size,0,none⟩) T.length T.length) w1 ∧
  ak w1 (.slice (some ⟨w.heap.size,0,none⟩) T.length T.length) 1 bT T∧Below w.heap.size w w1∧w1.heap.size=w.heap.size+1 :=
 ⟨_,Go.Lib.run_convert_bytes_const (P:=Tryz.prog) w 35 5 (T.flatMap bT).toArray T.length T.length Tryz.underlying35 Tryz.underlying5,adx w 5 T _ (by simp[maxLen];omega),aj w _,by simp⟩
theorem ady{T:List UInt8}(h1:(sS T).isRight=true)(h2:T.length≤65536)(hok:E8 T)(u:World)(g:Nat)(hg:g<u.heap.size)(hs:ak u (.slice (some ⟨g,0,none⟩) T.length T.length) 1 bT T)(hM:zQ u) :
  Calls Tryz.prog 56 #[.slice (some ⟨g,0,none⟩) T.length T.length] u fun e w'=>Below u.heap.size u w'∧∃ a c Rs,e=.returned (.tuple #[.slice a Rs.length c,.agg #[.int .i64 0,.int .i64 0]])∧xB w' a c Rs (kU T):=by
 have:=XI (g,0) T.length T.length T u hs hg hM (by omega) h2 hok
 rw[aa5 h1] at this
 refine this.mono ?_
 rintro e w' ⟨hb,a,c,Rs,he,hR,hO,hL⟩
 exact⟨hb,a,c,Rs,he,hR,hO.slice xY,fun i h=>(hL i h).1⟩
theorem agA{T:List UInt8}{most:Nat}(h:Nj T most=true)(u:World)(a:Option Addr)(c:Nat)(Rs:List (List UInt8×Vt))(hR:xB u a c Rs (kU T))(hT:Tab u) :
  Calls Tryz.prog 57 #[.slice a Rs.length c,.int .i64 most] u fun e w'=>Below u.heap.size u w'∧∃ V:au,e=.returned (.tuple #[.agg V.cells,.int .i64 0])∧(∀ v:World,Below w'.heap.size w' v→kJ v V (vk T most))∧V.of=(vk T most).of:=by
 unfold Nj at h
 simp only[Bool.and_eq_true,decide_eq_true_eq] at h
 obtain⟨_,g2,g3,_,g5,g6,_⟩:=h
 have h1:=Yx Rs a Rs.length c most u hR.sl hR.lies (fun x hx=>by
  have:=List.all_eq_true.1 g3 (x.1,x.2.tr) (by rw[←hR.tr];exact List.mem_map.2 ⟨x,hx,rfl⟩)
  simpa using this) hT g5 g6
 rw[show Rs.map wJ=kU T from hR.tr,YC g2] at h1
 refine h1.mono ?_
 rintro e w' ⟨hb,V,he,hrd,hof⟩
 exact⟨hb,V,he,fun v hv=>hrd v fun b _ hl=>hv.block b hl,hof⟩
end
section
open Go.RowKit
theorem aa6:dQ Tryz.prog 35 5 (.int .u8 0) 1 1:=⟨Tryz.underlying35,info_parts (by kernel_rfl),rfl,by decide⟩
theorem uP:eH bT 1:=⟨fun _=>rfl,fun x u hu=>by simp at hu;subst hu;rfl⟩
theorem Me(l:List UInt8):(l.flatMap bT).length=l.length:=by
 induction l with
 | nil=>rfl
 | cons x l ih=>rw[List.flatMap_cons,List.length_append,ih];exact Nat.add_comm 1 _
theorem VA(w:World)(row:Option Nat):w.grownBy w row:=⟨rfl,rfl,rfl,Nat.le_refl _,fun _ _ _=>rfl⟩
theorem Rk(ty:TypeId)(w:World)(top:Nat)(ha:Option Addr)(m hc:Nat)(h:List UInt8)(hH:gZ w top ha m hc h)(htw:top≤w.heap.size)(ba:Option Addr)(bn bc:Nat)(bs:List UInt8)(hS:ak w (.slice ba bn bc) 1 bT bs)(hlen:m+bn≤1099511627776) :
  ∃ a' c' w',(Builtin.append_ #[35,35] ty #[.slice ha m hc,.slice ba bn bc]).run Tryz.prog w=.ok (.slice a' (m+bn) c') w'∧gZ w' top a' (m+bn) c' (h++bs)∧w.grownBy w' (ha.map (·.block)) ∧
   (∀ ad,a'=some ad→some ad.block=ha.map (·.block)∨w.heap.size≤ad.block):=by
 obtain⟨i,hi,hz,hsz,hby⟩:=aa6.info
 obtain⟨hm,hmc,hc63⟩:=hH.len
 obtain⟨bb,bo,hbn,hbc,amT,hba,hbx⟩:=hS.dG (f:=fun x:UInt8=>Value.int .u8 (x.toNat:Nat))
 by_cases hb0:bn=0
 ·subst hb0
  obtain rfl:bs=[]:=List.eq_nil_of_length_eq_zero (by omega)
  have hsrc:Src Tryz.prog i.size 35 (.slice ba 0 bc) 0 [] w:=by
   cases ba with
   | none=>exact Src.ofNil w Tryz.underlying35 bc
   | some ad=>exact Src.ofSlice w Tryz.underlying35 ad 0 bc [] (by simp) (fun j u hu=>by simp at hu) (fun u hu=>by cases hu)
  refine⟨ha,hc,w,run_append_nothing w _ _ _ 5 i Tryz.underlying35 hi ha m hc hmc _ hsrc,by rw[List.append_nil];exact hH,VA w _,fun ad e=>.inl (by rw[e];rfl)⟩
 ·obtain rfl:=hba 0 (by omega)
  have hl:(bs.flatMap bT).length=bn*1:=by rw[Me];omega
  have hnews:∀ j u,(bs.flatMap bT)[j]?=some u→w.cell? ((⟨bb,bo,none⟩:Addr).add j)=some u:=ak.abo (f:=fun x:UInt8=>Value.int .u8 (x.toNat:Nat)) hS
  have h1:∀ u∈bs.flatMap bT,u.oneCell'=true:=fun u hu=>by
   obtain⟨x,_,hx⟩:=List.mem_flatMap.1 hu
   simp at hx;subst hx;rfl
  have own:Own w top 5 1 bT (.slice ha m hc) h→∃ a' c' w',(Builtin.append_ #[35,35] ty #[.slice ha m hc,.slice (some ⟨bb,bo,none⟩) bn bc]).run Tryz.prog w=.ok (.slice a' (m+bn) c') w'∧gZ w' top a' (m+bn) c' (h++bs)∧w.grownBy w' (ha.map (·.block)) ∧
    (∀ ad,a'=some ad→some ad.block=ha.map (·.block)∨w.heap.size≤ad.block):=fun ho=>by
   have hob:(Value.slice ha m hc).ownBlock=ha.map (·.block):=by cases ha <;> rfl
   obtain⟨v',w',hr,h2,h3,_⟩:=run_append_own (P:=Tryz.prog) w top 35 ty 5 i (.int .u8 0) 1 1 Tryz.underlying35 hi hz hsz hby rfl (by decide) _ h.length (h.flatMap bT) (ho.pU uP) ⟨bb,bo,none⟩ bn bc (bs.flatMap bT) hl hnews h1 (by simp[maxLen];omega) (by omega) htw
   have hb:=sD (c:=bc) Tryz.underlying35 hi hz hsz hby (ho.pU uP) hl hnews h1 (by omega) (by simp[maxLen];omega) (by omega) hr
   have ho':Own w' top 5 1 bT v' (h++bs):=by
    refine Own.ofRow ?_ uP
    rw[List.length_append,List.flatMap_append,←hbn]
    exact h2
   obtain⟨a',c',rfl⟩:=ho'.form
   have e:(h++bs).length=m+bn:=by rw[List.length_append];omega
   rw[e] at ho' hr hb
   rw[hob] at hb h3
   refine⟨a',c',w',hr,⟨ho'.slice uP,fun ad ha'=>?_,.inl ho'⟩,h3,fun ad ha'=>?_⟩
   ·subst ha';exact ho'.bY ad.block rfl
   ·subst ha'
    rcases hb with hb | hb
    ·exact .inl hb
    ·exact .inr (Nat.le_of_eq (Option.some.inj hb).symm)
  rcases hH.how with ho | rfl
  ·exact own ho
  ·cases ha with
   | none =>
    obtain⟨a',b',o',cap',hv,hl2,hc',ha2,_⟩:=hH.sl
    obtain⟨rfl,_,rfl⟩:=Value.slice.inj hv
    rcases ha2 with ha2 | ⟨rfl,hcz⟩
    ·cases ha2
    ·have:=hcz rfl
     subst this
     exact own (Own.nil _ _ _ _ _)
   | some ad =>
    have hol:(h.flatMap bT).length=m*i.size:=by rw[hsz,Me];omega
    have hfl:=ak.abo (f:=fun x:UInt8=>Value.int .u8 (x.toNat:Nat)) hH.sl
    have hr:=run_append_grow (P:=Tryz.prog) w 35 ty 5 i (.int .u8 0) Tryz.underlying35 hi hz ad m m (h.flatMap bT) hol hfl ⟨bb,bo,none⟩ bn bc (bs.flatMap bT) (by rw[hsz];exact hl) hnews (by omega) (by omega) (growslice_fits (by omega) (by rw[hby];omega))
    refine⟨_,_,_,hr,?_,⟨rfl,rfl,rfl,by simp,fun k hk _=>Below.heap_alloc w.drew _ k hk⟩,fun ad' e=>.inr (by cases e;exact Nat.le_refl _)⟩
    have hge:=grownCap_ge w (m+bn) m 5
    have hcm:=grownCap_le_maxLen w (m+bn) m 5 (by simp[maxLen];omega)
    generalize grownCap w (m+bn) m 5=C at *
    have e:(h++bs).length=m+bn:=by rw[List.length_append];omega
    have ho':Own (w.drew.alloc (.cells ((h.flatMap bT).toArray++(bs.flatMap bT).toArray++Builtin.zeroCells (Value.int .u8 0).cells (C - (m+bn))) 5)) top 5 1 bT (.slice (some ⟨w.heap.size,0,none⟩) (m+bn) C) (h++bs):=by
     refine Own.ofRow ?_ uP
     rw[e]
     refine⟨by rw[List.flatMap_append,List.length_append,hl,hol,hsz];omega,.inr ⟨w.heap.size,C,_,rfl,htw,heap_alloc_new w.drew _,hge,hcm,?_,?_⟩⟩
     ·simp only[Array.size_append,List.size_toArray,size_zeroCells,hol,hl,hsz]
      show m*1+bn*1+(C - (m+bn))*1=C*1
      omega
     ·simp only[Array.toList_append,List.append_assoc,List.flatMap_append]
      rw[←List.append_assoc]
      have:(m+bn)*1=(h.flatMap bT++bs.flatMap bT).length:=by rw[List.length_append,hol,hl,hsz];omega
      rw[this];exact List.take_left
    exact⟨ho'.slice uP,fun ad' e'=>by cases e';exact⟨htw,by simp⟩,.inl ho'⟩
theorem Rl{ops:Array Oper}{rest:List Oper}{o:Oper}{a:Act}{Q:Exit→Act→World→Prop}{w:World}(hgd:o.guard=none)(s x:Operand)
  (ho:o.op=.call { callee:=.builtin .append,args:=#[s,x],argTypes:=#[35,35] }) (top:Nat) (ha:Option Addr) (m hc:Nat) (h:List UInt8) (hH:gZ w top ha m hc h) (htw:top≤w.heap.size) (ba:Option Addr) (bn bc:Nat) (bs:List UInt8) (hS:ak w (.slice ba bn bc) 1 bT bs) (hlen:m+bn≤1099511627776)
  (hs:a.eval s=.slice ha m hc) (hx:a.eval x=.slice ba bn bc)
  (K:∀ a' c' w',gZ w' top a' (m+bn) c' (h++bs)→w.grownBy w' (ha.map (·.block))→(∀ ad,a'=some ad→some ad.block=ha.map (·.block)∨w.heap.size≤ad.block)→wpList Tryz.prog ops Q rest (a.put o.dst (.slice a' (m+bn) c')) w'):wpList Tryz.prog ops Q (o::rest) a w:=by
 obtain⟨a',c',w',hr,h1,h2,h3⟩:=Rk o.type w top ha m hc h hH htw ba bn bc bs hS hlen
 refine wpList_plain hgd fun _ hK=>?_
 unfold Oper.wp execOp
 simp only[ho,resolve,invoke,builtin,Sem.run_bind,Sem.run_pure,Result.andThen_ok,List.map_toArray,List.map_cons,List.map_nil,hs,hx,hr]
 exact hK _ _ (K a' c' w' h1 h2 h3)
structure ni(sb:Nat)(g:Option Nat)(w w':World):Prop where
 os:w'.os=w.os
 tape:w'.tape=w.tape
 output:w'.output=w.output
 size:w.heap.size≤w'.heap.size
 block:∀ b,b<w.heap.size→b≠sb→g≠some b→w'.heap[b]?=w.heap[b]?
theorem ni.below{sb:Nat}{g:Option Nat}{w w':World}(h:Below w.heap.size w w'):ni sb g w w':=⟨h.os,h.tape,h.output,h.size,fun b hb _ _=>h.block b hb⟩
theorem ni.agB{sb:Nat}{g:Option Nat}{w w':World}(h:aP sb w w'):ni sb g w w':=⟨h.os,h.tape,h.output,h.size,fun b hb hn _=>h.block b hb hn⟩
theorem ni.trans{sb:Nat}{g g2:Option Nat}{a b c:World}(h:ni sb g a b)(hg:∀ k,g2=some k→g=some k∨a.heap.size≤k)(k:ni sb g2 b c):ni sb g a c :=
 ⟨k.os.trans h.os,k.tape.trans h.tape,k.output.trans h.output,Nat.le_trans h.size k.size,fun x hx h1 h2=>(k.block x (Nat.lt_of_lt_of_le hx h.size) h1 (fun e=>by rcases hg x e with h3 | h3 <;> first | exact h2 h3 | omega)).trans (h.block x hx h1 h2)⟩
theorem ni.toBelow{sb:Nat}{g:Option Nat}{w0 w w':World}(h:ni sb g w w')(hb:Below w0.heap.size w0 w)(hs:w0.heap.size≤sb)(hg:∀ k,g=some k→w0.heap.size≤k):Below w0.heap.size w0 w' :=
 ⟨h.os.trans hb.os,h.tape.trans hb.tape,h.output.trans hb.output,Nat.le_trans hb.size h.size,fun b hb'=>(h.block b (Nat.lt_of_lt_of_le hb' hb.size) (by omega) (fun e=>by have:=hg b e;omega)).trans (hb.block b hb')⟩
def Kz(sb top vb n:Nat)(V:au)(D:aF)(w0:World)(g:Option Nat)(w:World)(q:List (Int×Nat×Nat)×jH)(e:Ending)(w':World):Prop :=
 ∃ a c g',e=.returned (.slice a q.1.length c)∧Own w' w.heap.size 61 3 AA (.slice a q.1.length c) q.1∧ni sb g w w'∧mG sb top vb n V D w0 w' q.2 g'∧(∀ k,g'=some k→(g=some k∨w.heap.size≤k)∧k<w'.heap.size)
end
section
open Go.RowKit
theorem mG.grown{sb top vb n:Nat}{V:au}{D:aF}{w0 w:World}{X:jH}{g:Option Nat}(h:mG sb top vb n V D w0 w X g):∃ (ha:Option Addr) (m hc s j:Nat) (r:Int×Nat),(∀ ad,ha=some ad→g=some ad.block)∧gZ w top ha m hc X.held∧Mid sb top w0 w ∧
  Box w sb (sC V (.slice (some ⟨vb,0,none⟩) n n::gG s r++resT (.slice ha m hc) X.at_ j X.en X.sk)) 123 ∧
  (X.sk=false→j≤m∧s=bK D 0 (X.held.take j)∧r=iE D (X.held.take j)∧∀ i,0<i→i≤j→gV D (bK D 0 (X.held.take i))=true):=by
 obtain⟨h1,ha,m,hc,s,j,r,h2,h3,h4,h5⟩:=h
 exact⟨ha,m,hc,s,j,r,h3,h2,h1,h4,h5⟩
theorem mG.only{sb top vb n:Nat}{V:au}{D:aF}{w0 w w':World}{X:jH}{g:Option Nat}(h:mG sb top vb n V D w0 w X g)(hlt:sb<top)(hs:w.heap.size≤w'.heap.size)(hb:∀ b,b<w.heap.size→(b≤top∨g=some b)→w'.heap[b]?=w.heap[b]?):mG sb top vb n V D w0 w' X g:=by
 obtain⟨⟨m1,m2⟩,ha,m,hc,s,j,r,hH,hga,hbx,hst⟩:=h
 exact⟨⟨Nat.le_trans m1 hs,fun b h1 h2=>(hb b (Nat.lt_of_lt_of_le h2 m1) (.inl (Nat.le_of_lt h2))).trans (m2 b h1 h2)⟩,ha,m,hc,s,j,r,hH.same hs (fun ad e=>hb _ (hH.ge ad e).2 (.inr (hga ad e))),hga,(hb sb hbx.lt (.inl (Nat.le_of_lt hlt))).trans hbx,hst⟩
theorem mG.kept{sb top vb n:Nat}{V:au}{D:aF}{w0 w w':World}{X:jH}{g:Option Nat}(h:mG sb top vb n V D w0 w X g)(hlt:sb<top)(hb:Below w.heap.size w w'):mG sb top vb n V D w0 w' X g:=h.only hlt hb.size fun b hl _=>hb.block b hl
theorem VB(sb top vb n:Nat)(V:au)(D:aF)(w0 w:World)(X:jH)(g:Option Nat)(v:Value)(hS:mG sb top vb n V D w0 w X g)(hg:∀ k,g=some k→k<w.heap.size)(hk:X.en=true∨X.sk=true) :
  Calls Tryz.prog 46 #[.pointer (some ⟨sb,0,none⟩),v] w (Kz sb top vb n V D w0 g w ([],X)):=by
 obtain⟨ha,m,hc,s,j,r,_,_,_,hbx,_⟩:=hS.grown
 have q0:w.cell? ⟨sb,267,none⟩=some (.bool X.en):=hbx.fV 7
 have q1:w.cell? ⟨sb,268,none⟩=some (.bool X.sk):=hbx.fV 8
 have l0:=hbx.lt
 have HS:=ah hS;have HG:=ah hg
 clear hS hbx hg
 obtain⟨en,he⟩:∃ e,X.en=e:=⟨_,rfl⟩
 obtain⟨sk,hs⟩:∃ e,X.sk=e:=⟨_,rfl⟩
 rw[he] at q0 hk
 rw[hs] at q1 hk
 clear he hs
 cases en with
 | true =>
  clear q1 hk
  go_enter Tryz.func46,Tryz.ntmps46
  go_wp2
  go_ret
  exact⟨none,0,g,rfl,Own.nil _ _ _ _ _,ni.below (Below.refl _ _),HS.out,fun k e=>⟨.inl e,HG.out k e⟩⟩
 | false =>
  obtain rfl:sk=true:=by simpa using hk
  clear hk
  go_enter Tryz.func46,Tryz.ntmps46
  go_wp2
  go_ret
  exact⟨none,0,g,rfl,Own.nil _ _ _ _ _,ni.below (Below.refl _ _),HS.out,fun k e=>⟨.inl e,HG.out k e⟩⟩
theorem Rn(sb top vb:Nat)(V:au)(D:aF)(w0 w:World)(n wd lb lo nb no:Nat)(rb ro rc:Nat→Nat)(hM:zq (Mid sb top w0) V D n wd lb lo nb no vb rb ro rc)(hW:kK D)(hlt:sb<top)(held:List UInt8)(at_:Nat)(g:Option Nat)(hS:mG sb top vb n V D w0 w ⟨held,at_,false,false⟩ g)(hg:∀ k,g=some k→k<w.heap.size)
  (ba:Option Addr) (bn bc:Nat) (bs:List UInt8) (hb:ak w (.slice ba bn bc) 1 bT bs) (hlen:at_+(held.length+bs.length)≤1099511627776) :
  Calls Tryz.prog 46 #[.pointer (some ⟨sb,0,none⟩),.slice ba bn bc] w (Kz sb top vb n V D w0 g w (oG D ⟨held++bs,at_,false,false⟩)):=by
 obtain⟨ha,m,hc,s,j,r,hga,hH,aa7,hbx,hst⟩:=hS.grown
 dsimp only at hH hbx hst
 have q0:w.cell? ⟨sb,267,none⟩=some (.bool false):=hbx.fV 7
 have q1:w.cell? ⟨sb,268,none⟩=some (.bool false):=hbx.fV 8
 have q2:w.cell? ⟨sb,264,none⟩=some (.slice ha m hc):=hbx.fV 4
 have l0:=hbx.lt
 have hbn:bn=bs.length:=by obtain⟨_,_,e,_⟩:=hb.open;exact e
 have hm:=hH.len.1
 have htw:=aa7.1
 have hnext:∀ (a':Option Addr) (c':Nat) (w1:World),gZ w1 top a' (m+bn) c' (held++bs)→w.grownBy w1 (ha.map (·.block))→(∀ ad,a'=some ad→some ad.block=ha.map (·.block)∨w.heap.size≤ad.block) →
   w1.cell? ⟨sb,264,none⟩=some (.slice ha m hc)∧w1.frozen? ⟨sb,264,none⟩=false∧sb<w1.heap.size∧ni sb g w (w1.setCell ⟨sb,264,none⟩ (.slice a' (m+bn) c')) ∧
   mG sb top vb n V D w0 (w1.setCell ⟨sb,264,none⟩ (.slice a' (m+bn) c')) ⟨held++bs,at_,false,false⟩ (a'.map (·.block))∧(∀ k,a'.map (·.block)=some k→(g=some k∨w.heap.size≤k)∧k<(w1.setCell ⟨sb,264,none⟩ (.slice a' (m+bn) c')).heap.size):=fun a' c' w1 h1 h2 h3=>by
  have hrow:∀ k,ha.map (·.block)=some k→g=some k∧top≤k:=fun k e=>by
   obtain⟨ad,e1,rfl⟩:=Option.map_eq_some_iff.1 e
   exact⟨hga ad e1,(hH.ge ad e1).1⟩
  have dW:Box w1 sb _ 123:=(h2.block sb hbx.lt fun e=>by have:=(hrow sb e.symm).2;omega).trans hbx
  have hbx2:=dW.oh 4 (.slice a' (m+bn) c')
  refine⟨dW.fV 4,dW.free _,dW.lt,⟨h2.os,h2.tape,h2.output,by rw[World.size_setCell];exact h2.size,fun b hb1 hb2 hb3=>(heap_setCell_other _ _ _ _ hb2).trans (h2.block b hb1 fun e=>hb3 (hrow b e.symm).1)⟩,⟨⟨by rw[World.size_setCell];exact Nat.le_trans htw h2.size,fun b hb1 hb2=>?_⟩,a',m+bn,c',s,j,r,h1.same (by rw[World.size_setCell];exact Nat.le_refl _) (fun ad e=>heap_setCell_other _ _ _ _ (by have:=(h1.ge ad e).1;show ad.block≠sb;omega)),fun ad e=>by rw[e];rfl,hbx2,fun e=>?_⟩,fun k e=>?_⟩
  ·exact(heap_setCell_other _ _ _ _ (by show b≠sb;omega)).trans ((h2.block b (by omega) fun e=>by have:=(hrow b e.symm).2;omega).trans (aa7.2 b hb1 hb2))
  ·obtain⟨g1,g2,g3,g4⟩:=hst rfl
   have ht:∀ i,i≤j→(held++bs).take i=held.take i:=fun i hi=>List.take_append_of_le_length (by omega)
   dsimp only
   exact⟨by omega,by rw[ht j (Nat.le_refl _)];exact g2,by rw[ht j (Nat.le_refl _)];exact g3,fun i h1 h2=>by rw[ht i h2];exact g4 i h1 h2⟩
  ·obtain⟨ad,e1,rfl⟩:=Option.map_eq_some_iff.1 e
   rw[World.size_setCell]
   refine⟨?_,(h1.ge ad e1).2⟩
   rcases h3 ad e1 with h4 | h4
   ·exact .inl (hrow _ h4.symm).1
   ·exact .inr h4
 have HN:=ah hnext;have HM:=ah hM;have HW:=ah hW;have HH:=ah hH;have HB:=ah hb;have HL:=ah hlen
 have hmb:m+bn≤1099511627776:=by omega
 clear hnext hM hW hH hb hS hbx hst hga aa7 hm hg hbn hlen
 go_enter Tryz.func46,Tryz.ntmps46
 go_wp2_with (first | (at_builtin;go_must (refine Rl rfl _ _ rfl top ha m hc held HH.out htw ba bn bc bs HB.out hmb rfl rfl ?_;intro a1 c1 w1 hH1 hg1 hf1;obtain⟨p0,p1,p2,hK,hS2,hg2⟩:=HN.out a1 c1 w1 hH1 hg1 hf1;have HS2:=ah hS2;have HG2:=ah hg2;have HK:=ah hK;clear hS2 hg2 hK hH1 hg1 hf1 q0 q1 q2 l0 HN)) | (go_at_call 86;go_must (refine(adw sb top vb V D w0 _ n wd lb lo nb no rb ro rc HM.out HW.out hlt _ _ HS2.out (fun k e=>(HG2.out k e).2) (by rw[List.length_append];exact HL.out) rfl).mono ?_;rintro e w3 ⟨a3,c3,rfl,ho3,hO3,hS3⟩)))
 go_ret
 have hsz:=HK.out.size
 have hs3:=hO3.size
 refine⟨a3,c3,_,rfl,ho3.mono hsz,HK.out.trans (fun k e=>(HG2.out k e).1) (ni.agB hO3),hS3,fun k e=>⟨(HG2.out k e).1,Nat.lt_of_lt_of_le (HG2.out k e).2 hs3⟩⟩
theorem adz(sb top vb:Nat)(V:au)(D:aF)(w0 w:World)(n wd lb lo nb no:Nat)(rb ro rc:Nat→Nat)(hM:zq (Mid sb top w0) V D n wd lb lo nb no vb rb ro rc)(hW:kK D)(hlt:sb<top)(X:jH)(g:Option Nat)(hS:mG sb top vb n V D w0 w X g)(hg:∀ k,g=some k→k<w.heap.size)
  (ba:Option Addr) (bn bc:Nat) (bs:List UInt8) (hb:ak w (.slice ba bn bc) 1 bT bs) (hlen:X.at_+(X.held.length+bs.length)≤1099511627776) :
  Calls Tryz.prog 46 #[.pointer (some ⟨sb,0,none⟩),.slice ba bn bc] w (Kz sb top vb n V D w0 g w (wY D X bs)):=by
 unfold wY
 by_cases h:X.en=true∨X.sk=true
 ·rw[if_pos h]
  exact VB sb top vb n V D w0 w X g _ hS hg h
 ·rw[if_neg h]
  obtain⟨held,at_,en,sk⟩:=X
  obtain rfl:en=false:=by simpa using fun e=>h (.inl e)
  obtain rfl:sk=false:=by simpa using fun e=>h (.inr e)
  exact Rn sb top vb V D w0 w n wd lb lo nb no rb ro rc hM hW hlt held at_ g hS hg ba bn bc bs hb hlen
theorem ahk(sb top vb n:Nat)(V:au)(D:aF)(w0 w:World)(X:jH)(g:Option Nat)(hS:mG sb top vb n V D w0 w X g):Calls Tryz.prog 48 #[.pointer (some ⟨sb,0,none⟩)] w (bV w (.int .i64 (X.at_:Nat))):=by
 obtain⟨ha,m,hc,s,j,r,_,hH,_,hbx,_⟩:=hS.grown
 have q0:w.cell? ⟨sb,265,none⟩=some (.int .i64 (X.at_:Nat)):=hbx.fV 5
 have l0:=hbx.lt
 clear hS hbx hH
 go_enter Tryz.func48,Tryz.ntmps48
 go_wp2
 go_ret
 exact⟨rfl,Below.refl _ _⟩
theorem aa8(sb top vb n:Nat)(V:au)(D:aF)(w0 w:World)(X:jH)(g:Option Nat)(hS:mG sb top vb n V D w0 w X g):Calls Tryz.prog 49 #[.pointer (some ⟨sb,0,none⟩)] w (bV w (.bool X.sk)):=by
 obtain⟨ha,m,hc,s,j,r,_,hH,_,hbx,_⟩:=hS.grown
 have q0:w.cell? ⟨sb,268,none⟩=some (.bool X.sk):=hbx.fV 8
 have l0:=hbx.lt
 clear hS hbx hH
 go_enter Tryz.func49,Tryz.ntmps49
 go_wp2
 go_ret
 exact⟨rfl,Below.refl _ _⟩
end
section
open Go.RowKit
theorem aa9(V U:au)(t:List Value)(i:Nat)(v:Value)(hi:i<260)(h:V.cells.setIfInBounds i v=U.cells):(sC V t).setIfInBounds i v=sC U t:=by
 apply Array.ext_getElem?
 intro j
 rw[Array.getElem?_setIfInBounds,Ky]
 by_cases hj:j<260
 ·rw[tY _ _ _ hj,tY _ _ _ hj,←h,Array.getElem?_setIfInBounds,au.size]
  by_cases e:i=j
  ·rw[if_pos e,if_pos e,if_pos (by omega),if_pos hi]
  ·rw[if_neg e,if_neg e]
 ·obtain⟨k,rfl⟩:∃ k,j=260+k:=⟨j - 260,by omega⟩
  rw[if_neg (by omega),zo,zo]
theorem YD(V:au)(a:Option Addr)(n c:Nat):V.cells.setIfInBounds 257 (.slice a n c)=({ V with na:=a,nn:=n,nc:=c }:au).cells :=
 BU (by rw[Array.size_setIfInBounds,au.size]) (fun i h=>by rw[Array.getElem?_setIfInBounds_ne (by omega)];exact V.DJ i h) (by rw[Array.getElem?_setIfInBounds_ne (by decide)];exact V.yR)
  (by rw[Array.getElem?_setIfInBounds,if_pos rfl,if_pos (by rw[au.size];decide)]) (by rw[Array.getElem?_setIfInBounds_ne (by decide)];exact V.kX) (by rw[Array.getElem?_setIfInBounds_ne (by decide)];exact V.yS)
theorem Box.akq{w:World}{b E:Nat}{V:au}{t:List Value}(h:Box w b (sC V t) E)(U:au):Box (w.setCells b 0 U.cells.toList) b (sC U t) E:=by
 obtain⟨c',h1,h2,h3⟩:=Box.setMany U.cells.toList 0 w _ h
 have hl:U.cells.toList.length=260:=by rw[Array.length_toList,au.size]
 rw[Ky] at h2 h3
 rw[hl] at h3
 have e:c'=sC U t:=by
  apply Array.ext_getElem?
  intro j
  rw[h3]
  by_cases hj:j<260
  ·rw[if_pos (by omega),Nat.sub_zero,Array.getElem?_toList,tY _ _ _ hj]
  ·obtain⟨k,rfl⟩:∃ k,j=260+k:=⟨j - 260,by omega⟩
   rw[if_neg (by omega),zo,zo]
 rw[←e];exact h1
theorem Box.agC{w:World}{b E:Nat}{V:au}{t:List Value}(h:Box w b (sC V t) E)(U:au):w.there b 0 U.cells.size:=fun j hj=>by
 rw[au.size] at hj
 refine⟨?_,h.free _⟩
 rw[h.cell,Nat.zero_add,tY _ _ _ hj,Array.getElem?_eq_getElem (by rw[au.size];exact hj)];rfl
theorem YE(l:List Int):l.map (Value.int .i64)=l.flatMap encI:=by
 induction l with
 | nil=>rfl
 | cons x l ih=>rw[List.map_cons,ih,List.flatMap_cons];rfl
abbrev Jz(x:Option Addr×Nat×Nat):List Value:=[.slice x.1 x.2.1 x.2.2]
theorem BZ:eH Jz 1:=⟨fun _=>rfl,fun x u hu=>by simp[Jz] at hu;subst hu;rfl⟩
theorem VD:dQ Tryz.prog 23 24 (.slice none 0 0) 1 24:=⟨Tryz.underlying23,info_parts (by kernel_rfl),rfl,by decide⟩
def au.lw(V:au):Value:=.slice V.la V.ln V.lc
abbrev G8(x:Option Addr×Nat×Nat):Value:=.slice x.1 x.2.1 x.2.2
theorem VE{α β:Type}{w:World}{v:Value}{f:α→Value}{g:β→Value}{m:α→β}{xs:List α}(h:ak w v 1 (fun x=>[f x]) xs)(hm:∀ x,g (m x)=f x):ak w v 1 (fun x=>[g x]) (xs.map m):=by
 obtain⟨a,b,o,cap,hv,h1,h2,h3,h4⟩:=h
 refine⟨a,b,o,cap,by rw[List.length_map];exact hv,by rw[List.length_map];exact h1,h2,?_,fun i hi j u hu=>?_⟩
 ·rcases h3 with h3 | ⟨rfl,h3⟩
  ·exact .inl h3
  ·exact .inr ⟨rfl,h3⟩
 ·have hi':i<xs.length:=by simpa using hi
  simp only[List.getElem_map,hm] at hu
  exact h4 i hi' j u hu
theorem Ti(l:List Int)(a:Option Addr)(n cap:Nat)(w:World)(h:ak w (.slice a n cap) 1 encI l)(h0:0<l.length)(hl:l.length≤1099511627776) :
  Calls Tryz.prog 80 #[.slice a n cap] w (gu w 3 1 encI l):=by
 obtain⟨b,o,hn,hc,hc2,ha,hx⟩:=h.dG (f:=fun x:Int=>Value.int .i64 x)
 obtain rfl:=ha 0 h0
 subst hn
 have:=Tryz.slices_Clone_int b o l.length cap l w (by simp) (by omega) (fun j hj=>by
  rw[hx j hj w (Below.refl _ _)]
  simp[List.getD,hj])
 refine this.mono fun e w' he=>?_
 obtain⟨v',rfl,hr,_,hB⟩:=he
 rw[List.take_of_length_le (by simp),YE] at hr
 have ho:Own w' w.heap.size 3 1 encI v' l:=Own.ofRow hr lU
 obtain⟨a',c',rfl⟩:=ho.form
 exact⟨a',c',rfl,ho,hB⟩
structure jV(w:World)(sb base:Nat)(V:au)(t:List Value)(D:aF)(nx:List (List Int)):Prop where
 box:Box w sb (sC V t) 123
 of:V.of=D.of
 width:V.width=D.width
 lab:Own w base 3 1 encI V.lw D.label
 YF:Own w base 9 1 kH (.slice V.ma V.mn V.mc) D.names
 Tj:∃ rows:List (Option Addr×Nat×Nat),Own w base 24 1 Jz (.slice V.na V.nn V.nc) rows∧rows.length=nx.length∧∀ i (h1:i<rows.length) (h2:i<nx.length),Own w base 3 1 encI (G8 rows[i]) nx[i]
theorem jV.same{w w':World}{sb base:Nat}{V:au}{t:List Value}{D:aF}{nx:List (List Int)}(h:jV w sb base V t D nx)(hb:∀ b,b=sb∨base≤b→b<w.heap.size→w'.heap[b]?=w.heap[b]?):jV w' sb base V t D nx:=by
 obtain⟨rows,h1,h2,h3⟩:=h.Tj
 have k:∀ {α:Type} {E size:Nat} {enc:α→List Value} {v:Value} {xs:List α},Own w base E size enc v xs→Own w' base E size enc v xs:=fun ho=>ho.dh fun g hg=>hb g (.inr (ho.bY g hg).1) (ho.bY g hg).2
 exact⟨(hb sb (.inl rfl) h.box.lt).trans h.box,h.of,h.width,k h.lab,k h.YF,rows,k h1,h2,fun i p q=>k (h3 i p q)⟩
theorem jV.kept{w w':World}{sb base:Nat}{V:au}{t:List Value}{D:aF}{nx:List (List Int)}(h:jV w sb base V t D nx)(hb:Below w.heap.size w w'):jV w' sb base V t D nx:=h.same fun b _ hl=>hb.block b hl
theorem jV.row{w w' w2:World}{sb base:Nat}{V:au}{t:List Value}{D:aF}{nx:List (List Int)}{a':Option Addr}{n' cap':Nat}{rows:List (Option Addr×Nat×Nat)}{x:Option Addr×Nat×Nat}{l:List Int}(h:jV w sb base V t D nx)(hr:sb<base)
  (h1:Own w base 24 1 Jz (.slice V.na V.nn V.nc) rows) (h2:rows.length=nx.length) (h3:∀ i (h1:i<rows.length) (h2:i<nx.length),Own w base 3 1 encI (G8 rows[i]) nx[i])
  (hg:w.grownBy w' (Value.slice V.na V.nn V.nc).ownBlock) (ho:Own w' base 24 1 Jz (.slice a' n' cap') (rows++[x])) (hx:Own w base 3 1 encI (G8 x) l) (hl:Below w'.heap.size w' w2) :
  jV (w2.setCell ⟨sb,257,none⟩ (.slice a' n' cap')) sb base { V with na:=a',nn:=n',nc:=cap' } t D (nx++[l]):=by
 refine⟨?_,h.of,h.width,((h.lab.iG h1 hg (by decide)).kept hl).other _ _ hr,((h.YF.iG h1 hg (by decide)).kept hl).other _ _ hr,rows++[x],(ho.kept hl).other _ _ hr,by simp[h2],fun i p q=>?_⟩
 ·have:=((h.box.iG h1 hg (by decide)).kept hl).set 257 (.slice a' n' cap')
  rwa[aa9 V { V with na:=a',nn:=n',nc:=cap' } t 257 _ (by decide) (YD V a' n' cap')] at this
 ·by_cases hi:i<rows.length
  ·have e1:(rows++[x])[i]=rows[i]:=List.getElem_append_left hi
   have e2:(nx++[l])[i]=nx[i]'(by omega):=List.getElem_append_left (by omega)
   rw[e1,e2]
   exact((h3 i hi (by omega)).iG h1 hg (by decide)).kept hl |>.other _ _ hr
  ·obtain rfl:i=rows.length:=by simp at p;omega
   have e1:(rows++[x])[rows.length]=x:=by simp
   have e2:(nx++[l])[rows.length]'(by simp;omega)=l:=by simp[h2]
   rw[e1,e2]
   exact((hx.iG h1 hg (by decide)).kept hl).other _ _ hr
theorem jV.reads{w:World}{sb base:Nat}{V:au}{t:List Value}{D:aF}(h:jV w sb base V t D D.next):kJ w V D:=by
 obtain⟨rows,h1,h2,h3⟩:=h.Tj
 refine⟨h.of,h.width,h.lab.slice lU,h.YF.slice xq,rows.map G8,VE (m:=G8) (f:=G8) (g:=fun v=>v) (h1.slice BZ) (fun _=>rfl),by rw[List.length_map];exact h2,fun i a b=>?_⟩
 have ha:i<rows.length:=by simpa using a
 have h4:=h3 i ha b
 obtain⟨a',c',hv⟩:=h4.form
 refine⟨a',c',by rw[List.getElem_map];exact hv,?_⟩
 rw[←hv]
 exact h4.slice lU
theorem abb{w:World}{sb vb:Nat}{V:au}{t:List Value}{D:aF}(h:jV w sb (sb+1) V t D D.next)(hw:kK D)(hv:sb<vb)(hlv:Own w (sb+1) 4 1 EL (.slice (some ⟨vb,0,none⟩) D.label.length D.label.length) (pq D.label.length (oD D))) :
  ∃ wd lb lo nb no rb ro rc,zq (Mid sb w.heap.size w) V D D.label.length wd lb lo nb no vb rb ro rc:=by
 obtain⟨n,wd,lb,lo,nb,no,rb,ro,rc,hm⟩:=machC h.reads hw
 obtain rfl:=hm.nl
 have hpos:=hm.Lm.1
 have keep:∀ {b o:Nat} {v:Value},sb<b→w.cell? ⟨b,o,none⟩=some v→∀ u,Mid sb w.heap.size w u→u.cell? ⟨b,o,none⟩=some v:=fun hb hc u hu=>by
  rw[←hc]
  exact World.cell?_of_block (hu.2 _ hb (World.block_lt_of_cell? w _ hc))
 have hlb:sb<lb:=(h.lab.bY lb (by unfold au.lw;rw[hm.la];rfl)).1
 obtain⟨rows,h1,h2,h3⟩:=h.Tj
 have hnb:sb<nb:=(h1.bY nb (by rw[hm.na];rfl)).1
 have hrb:∀ s,s<D.label.length→sb<rb s:=fun s hs=>by
  have hs2:s<D.next.length:=by rw[hw.nx];exact hs
  have hs1:s<rows.length:=by omega
  have e1:=hm.row s hs w (Below.refl _ _)
  obtain⟨b5,o5,_,_,_,ha5,hx5⟩:=(h1.slice BZ).dG (f:=G8)
  have e2:=hx5 s hs1 w (Below.refl _ _)
  have e3:=ha5 s hs1
  rw[hm.na] at e3
  cases e3
  rw[e1] at e2
  have h4:=h3 s hs1 hs2
  rw[←Option.some.inj e2] at h4
  exact(h4.bY (rb s) rfl).1
 refine⟨wd,lb,lo,nb,no,rb,ro,rc,rfl,h.of,hm.ln,hm.nn,hm.la,hm.na,hm.Lm,hm.Xx,hm.lc,hm.nc,fun k hk=>keep hlb (hm.lab k hk w (Below.refl _ _)),fun s hs=>keep hnb (hm.row s hs w (Below.refl _ _)),hm.cap,fun s hs j hj=>keep (hrb s hs) (hm.Xy s hs j hj w (Below.refl _ _)),hm.lt,hm.of,fun k hk=>keep hv ?_⟩
 have hl:=nU D.label.length (oD D)
 obtain⟨g1,_⟩:=hlv.cellAt (i:=k) (j:=0) (by rw[hl];exact hk) (by decide)
 rw[show k*1+0=k by omega] at g1
 rw[g1]
 rw[aaN hk]
 show some (Value.bool ((pq D.label.length (oD D))[k]'(by rw[hl];exact hk)))=_
 rw[BL]
end
end Go.Proofs.YtbemonecmmnlcaaGreatDoor
