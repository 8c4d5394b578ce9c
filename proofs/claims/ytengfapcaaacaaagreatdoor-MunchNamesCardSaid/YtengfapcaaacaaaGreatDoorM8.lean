/- The texts of N8, in few letters (mini.py). -/
import Derived.Test.YtengfapcaaacaaaGreatDoorM7
import Derived.Test.YtengfapcaaacaaaGreatDoorCards
import Derived.Test.YtengfapcaaacaaaGreatDoorTie
import Derived.Deep.DeepHandedRow
import Derived.Lib.LaidTab
set_option linter.unusedVariables false
set_option linter.unusedSimpArgs false
set_option maxRecDepth 20000
set_option maxHeartbeats 2000000
namespace Go.Proofs.YtengfapcaaacaaaGreatDoor
section
open Go.RowKit
theorem ab9:dQ Tryz.prog 35 5 (.int .u8 0) 1 1:=⟨Tryz.underlying35,info_parts (by kernel_rfl),rfl,by decide⟩
theorem Y9{R:Nat→Nat→Bool}(E:yO R)(k:Nat)(hk:k<(lT R 256).length)(hk2:k<(aI R 256).length):leastOf (lT R 256)[k]=((aI R 256)[k]:Nat):=by
 simp only[lT,List.getElem_map]
 exact YF E (Nat.le_refl _) (List.getElem_mem hk2)
theorem Q5(f:Nat→Nat)(w:World)(hT:Tab w) :
  Calls Tryz.prog 70 #[.agg (aS f)] w (iU w 5 1 gY (aI (aW (bH f)) 256)):=by
 have hE:=oL (bH f)
 have hS:=WU f
 have hl:=mP (aW (bH f)) 256
 have hat:=Y9 hE
 have hlt:=fun x=>lN (aW (bH f)) 256 x
 have hm:=jT (aW (bH f)) 256
 have hw:=nI (aW (bH f))
 rw[hw] at hl
 generalize lT (aW (bH f)) 256=L at *
 generalize aI (aW (bH f)) 256=xs at *
 obtain⟨m,hxm⟩:∃ m,xs.length=m:=⟨_,rfl⟩
 rw[hxm] at hl hm
 have HS:=ah hS
 have HL:=ah hl
 have HA:=ah hat
 have HX:=ah hlt
 have HM:=ah hxm
 have HT:=ah hT
 clear hE hS hl hat hlt hw hxm hT
 go_enter Tryz.func70,Tryz.ntmps70
 go_wp2_with (first | (refine wpList_load_row rfl 22 (.tmp 1) rfl _ rfl _ _ _ _ (Box.new _ _ _) Tryz.underlying22 rfl (aT _) ?_) | (go_at_call 114;go_must (refine(HS.out _).mono ?_;intro e w1 h1;obtain⟨a1,cap1,rfl,o1,hb1⟩:=h1;rw[HL.out] at o1 ⊢)))
 have hB1:Below w.heap.size w w1:=(aj w _).trans (hb1.mono (by simp))
 have hT1:=HT.out.kept hB1
 have hs1:=o1.slice wX
 obtain⟨b,o,hlen,hcap,hcap',ha,hbl,hcell⟩:=ak.sets hs1
 have HC:=ah hcell
 have HA1:=ah ha
 have HT1:=ah hT1
 have hsz:=hB1.size
 clear hcell ha hlen hs1 o1 hb1 hT1 hbl
 go_loopw [3,9] (fun v i wr=>∃ (k:Nat) (a:Option Addr) (cap:Nat),k≤m∧i=.int .i64 k∧v=.slice a k cap∧Own wr w1.heap.size 5 1 gY (.slice a k cap) (xs.take k)∧Below w1.heap.size w1 wr) (fun _ i _=>m - (intOf i).toNat)
 case atStart=>exact⟨0,none,0,Nat.zero_le _,rfl,rfl,Own.nil _ _ _ _ _,Below.refl _ _⟩
 case round =>
  obtain⟨k,a,cap,hk,rfl,rfl,hown,hB⟩:=hrel
  by_cases hlt:k<m
  ·have hk2:k<L.length:=by rw[HL.out];exact hlt
   have hk3:k<xs.length:=by rw[HM.out];exact hlt
   have hl1:=HA.out k hk2 hk3
   have hx:=HX.out _ (List.getElem_mem hk3)
   obtain rfl:=HA1.out k hk2
   obtain⟨c0,c1,c2,c3⟩:=HC.out k hk2 wr hB
   have htk:xs.take (k+1)=xs.take k++[xs[k]]:=List.take_succ_eq_append_getElem hk3
   have hln:(xs.take k).length=k:=by rw[List.length_take];omega
   have hle:=fun w hT=>Xe L[k] w hT
   rw[hl1] at hle
   generalize xs[k]=x at *
   generalize xs.take k=ys at *
   generalize L[k]=s at *
   have Vx:=ah hle
   have Bh:=ah htk
   have uK:=ah hln
   have apK:ys.length≤256:=by omega
   have hu8:IntKind.u8.wrap (x:Int)=(x:Int):=nH x hx
   clear hl1 htk hln hle
   have hk0:(0:Int)≤(k:Int):=by omega
   have hkm:(k:Int)<(m:Int):=by omega
   go_wp2_with (first | (go_at_call 115;go_must (refine(Vx.out _ (HT1.out.kept (hB.alloc hB.size _))).mono ?_;rintro e w5 ⟨rfl,hb5⟩;have hown5:=(hown.alloc (.cells (bT s) 113)).kept hb5)) | (at_builtin;go_must (refine fJ rfl _ _ 35 rfl ab9 Nh rfl (hown5.alloc _) ⟨w5.heap.size,0,none⟩ 1 x rfl (dD w5 [.int .u8 (x:Nat)] _) (by simp[maxLen];omega) (by omega) (by have:=hb5.size;have:=hB.size;simp at *;omega) ?_;intro a' cap' W' hown' hg)))
   rw[uK.out] at hown' ⊢
   go_roundw
   case rel =>
    refine⟨k+1,a',cap',hlt,by go_num,rfl,by rw[Bh.out];exact hown',?_⟩
    have h6:=(hB.alloc hB.size (.cells (bT s) 113)).trans (hb5.mono (by have:=hB.size;simp;omega))
    have h7:=h6.alloc h6.size (.cells #[.int .u8 (x:Nat)] 5)
    exact below_grown h7 (hown5.alloc _) hg (Nat.le_refl _) h7.size
   case measure=>simp[intOf];omega
  ·obtain rfl:k=m:=by omega
   have htk:xs.take k=xs:=List.take_of_length_le (by rw[HM.out];omega)
   go_wp2
   go_ret
   rw[htk] at hown
   exact⟨a,cap,by rw[HM.out];rfl,by rw[HM.out];exact hown.mono hsz,hB1.trans (hB.mono hsz)⟩
end
section
open Go.RowKit Go.Shelf
attribute [local go_sem] Oper.semAt_some
mutual
def jm:Vt→List Vt
 | .mk k s a cap kids lo hi=>.mk k s a cap kids lo hi::gU kids
def gU:List Vt→List Vt
 | []=>[]
 | a::l=>jm a++gU l
end
theorem FD(l m:List Vt):gU (l++m)=gU l++gU m:=by
 induction l with
 | nil=>simp[gU]
 | cons a l ih=>simp[gU,ih]
theorem Xf(l:List Vt)(j:Nat)(h:j<l.length):gU (l.take (j+1))=gU (l.take j)++jm l[j]:=by
 rw[List.take_succ_eq_append_getElem h,FD];simp[gU]
theorem UH(l:List Vt)(j:Nat)(h:j<l.length):gU l=gU (l.take j)++(jm l[j]++gU (l.drop (j+1))):=by
 have:l=l.take j++(l[j]::l.drop (j+1)):=by simp
 have e:=congrArg gU this
 rw[FD] at e
 simpa [gU] using e
theorem acd:∀ V:Vt,(jm V).length=sizeT V.tr:=by
 refine Vt.ind fun k s a cap kids lo hi ih=>?_
 rw[Vt.jJ]
 have key:∀ l:List Vt,(∀ i (h:i<l.length),(jm l[i]).length=sizeT (Vt.tr l[i]))→(gU l).length=pF (l.map Vt.tr):=by
  intro l
  induction l with
  | nil=>intro _;rfl
  | cons a l ihl =>
   intro h
   have h0:=h 0 (by simp)
   have h1:=ihl fun i hi=>h (i+1) (Nat.succ_lt_succ hi)
   simp only[List.getElem_cons_zero] at h0
   simp[gU,pF,h0,h1]
 simp[jm,sizeT,key kids ih];omega
theorem Lies.H6{X:Nat→Prop}{w w':World}{V:Vt}(h:Lies w V)(ho:On (fun b=>¬ X b) V)(hk:aQ X w w'):Lies w' V:=by
 induction h with
 | mk k s a cap kids lo hi h1 h2 h3 hs _ ih =>
  cases ho with
  | mk _ _ _ _ _ _ _ g1 g2=>exact .mk k s a cap kids lo hi h1 h2 h3 (hk.slice hs g1) fun i hi=>ih i hi (g2 i hi)
theorem On.open{S:Nat→Prop}{k:Int}{s:au}{a:Option Addr}{cap:Nat}{kids:List Vt}{lo hi:Int}(h:On S (.mk k s a cap kids lo hi)):(0<kids.length→∀ ad,a=some ad→S ad.block)∧∀ i (h:i<kids.length),On S kids[i]:=by
 cases h with
 | mk _ _ _ _ _ _ _ g1 g2=>exact⟨g1,g2⟩
abbrev Qa(x:Vt):Array Value:=#[.agg x.cells.toArray]
def Jr(X:Nat→Prop)(J Jx:List Vt→World→Prop)(pre q:List Vt)(W:World)(e:Ending)(W':World):Prop :=
 (e=.returned (.bool true)∧J (pre++q) W'∧aQ X W W')∨(e=.returned (.bool false)∧∃ r,r <+: q∧Jx (pre++r) W')
def afH(X:Nat→Prop)(J:List Vt→World→Prop)(kids:List Vt)(pre:List Vt)(W wr:World)(i:Value):Prop :=
 ∃ j:Nat,j≤kids.length∧i=.int .i64 j∧J (pre++gU (kids.take j)) wr∧aQ X W wr
set_option maxRecDepth 100000 in
theorem Nw(F:Fence)(hd:F.depth=none)(hF:F.fn 187)(hro:F.round=none)(l N Bx:Nat)(X:Nat→Prop)(hX:∀ b,X b→b<Bx)(J Jx:List Vt→World→Prop)(hJ:AbidesFrom Bx J)
  (hY:∀ m pre x W,J pre W→pre.length<N→YieldAt F m Tryz.prog l (Qa x) W fun e W'=>(e=.returned (.bool true)∧J (pre++[x]) W'∧aQ X W W')∨(e=.returned (.bool false)∧Jx (pre++[x]) W')) :
  ∀ (V:Vt) (n:Nat) (pre:List Vt) (W:World),Lies W V→On (fun b=>¬ X b) V→Bx≤W.heap.size→J pre W→pre.length+(jm V).length≤N →
   CallsIn F n Tryz.prog 187 #[.agg V.cells.toArray,.func (.yield l) #[] #[]] W (Jr X J Jx pre (jm V) W):=by
 refine Vt.ind fun k s a cap kids lo hi ih n pre W hL hO hB hJ0 hN=>?_
 have hdd:∀ k:Nat,(F.depth.isSome=true→1≤k):=fun k h=>by rw[hd] at h;cases h
 have hb1:=(Below.refl W.heap.size W).alloc (Nat.le_refl _) (.cells (aC k s a kids.length cap lo hi).toArray 115)
 have hJ1:=Fz hJ hJ0 hb1
 have hbx:=Box.new W (aC k s a kids.length cap lo hi).toArray 115
 have hk1:aQ X W (W.alloc (.cells (aC k s a kids.length cap lo hi).toArray 115)):=aQ.below hb1
 have hNX:¬ X W.heap.size:=fun h=>by have:=hX _ h;omega
 simp only[jm,List.length_cons] at hN
 have FC:=hY (n - 1) pre (.mk k s a cap kids lo hi) _ hJ1 (by omega)
 change YieldAt F (n - 1) Tryz.prog l #[.agg (aC k s a kids.length cap lo hi).toArray] _ _ at FC
 obtain⟨fn,tmps,assign,body,hy,hR⟩:=FC
 obtain⟨_,_,_,sA,lA⟩:=hL.open
 obtain⟨oA,Xg⟩:=hO.open
 have HY:=ah hy
 change CallsIn _ _ _ _ #[.agg (aC k s a kids.length cap lo hi).toArray,_] _ _
 refine callsIn_of_wp Tryz.func187 rfl hF ?_ hro
 simp only[Tryz.ntmps187,List.size_toArray,List.length_cons,List.length_nil,Nat.reduceAdd,Nat.reduceSub,Array.replicate_succ,Array.replicate_zero,List.push_toArray,List.append_toArray,List.nil_append,List.cons_append]
 gi_wp2_with ((try refine⟨hdd _,?_⟩);refine hR.mono ?_;clear hR)
 rintro e W2 (⟨rfl,hJ2,hk2⟩ | ⟨rfl,hx2⟩)
 ·have hk3:=hk1.trans hk2
  have hb2:=hk2.box hNX hbx
  obtain⟨p0,p1,p2,p3,p4,p5,p6,p7⟩:=hb2.node
  have hB2:Bx≤W2.heap.size:=Nat.le_trans hB hk3.size
  have s2:=hk3.slice sA oA
  have HL:=ah fun i (h:i<kids.length)=>(lA i h).H6 (Xg i h) hk3
  have HI:=ah ih
  have HO:=ah Xg
  have HA:=ah oA
  have hfin:∀ e W',((e=.returned (.bool true)∧J (pre++[Vt.mk k s a cap kids lo hi]++gU kids) W'∧aQ X W2 W')∨(e=.returned (.bool false)∧∃ r,r <+: gU kids∧Jx (pre++[Vt.mk k s a cap kids lo hi]++r) W'))→Jr X J Jx pre (jm (.mk k s a cap kids lo hi)) W e W':=fun e W' h=>by
   rcases h with⟨h1,h2,h3⟩ | ⟨h1,r,h2,h3⟩
   ·exact .inl ⟨h1,by simpa [jm] using h2,hk3.trans h3⟩
   ·exact .inr ⟨h1,Vt.mk k s a cap kids lo hi::r,by simpa [jm] using h2,by simpa using h3⟩
  have HF:=ah hfin
  have hlen:(pre++[Vt.mk k s a cap kids lo hi]).length+(gU kids).length≤N:=by simp only[List.length_append,List.length_singleton];omega
  clear hbx hb2 sA lA ih Xg hy HY hk1 hk2 hb1 hJ1 hO hL oA hfin
  generalize hp1:pre++[Vt.mk k s a cap kids lo hi]=ace at *
  generalize hq1:jm (Vt.mk k s a cap kids lo hi)=q1 at *
  have HP:=ah hp1
  have HQ:=ah hq1
  clear hp1 hq1
  gi_wp2
  gi_loopw [14] (fun i wr=>afH X J kids ace W2 wr i) (fun i _=>kids.length - (intOf i).toNat)
  case atStart=>exact⟨0,Nat.zero_le _,rfl,by simpa [gU] using hJ2,aQ.refl _ _⟩
  case round =>
   obtain⟨j,hj,rfl,wJ,hkr⟩:=hrel
   by_cases hlt:j<kids.length
   ·obtain⟨b,o,c1,c2,c3,_,c5⟩:=(hkr.slice s2 HA.out).kids
    clear s2
    obtain rfl:=c3 j hlt
    have e1:=c5 j hlt wr (Below.refl _ _)
    have hb3:=(Below.refl wr.heap.size wr).alloc (Nat.le_refl _) (.cells kids[j].cells.toArray 115)
    have hJ3:=Fz hJ wJ hb3
    have hk4:aQ X W2 (wr.alloc (.cells kids[j].cells.toArray 115)):=hkr.trans (aQ.below hb3)
    have hps:=UH kids j hlt
    have hpt:=Xf kids j hlt
    have hNj:(ace++gU (kids.take j)).length+(jm kids[j]).length≤N:=by
     have:=congrArg List.length hps
     simp only[List.length_append] at this ⊢
     omega
    have i1:=HI.out j hlt (n - 1) (ace++gU (kids.take j)) _ ((HL.out j hlt).H6 (HO.out j hlt) hk4) (HO.out j hlt) (by have:=hk4.size;omega) hJ3 hNj
    have HS:=ah hps
    have HT:=ah hpt
    clear hps hpt c5 c3
    generalize kids[j]=V at *
    obtain⟨k1,s1,a1,Bj,yY,lo1,hi1⟩:=V
    obtain⟨x0,x1,x2,x3,x4,x5,x6,x7⟩:=qP e1
    change CallsIn _ _ _ _ #[.agg (aC k1 s1 a1 yY.length Bj lo1 hi1).toArray,_] (wr.alloc (.cells (aC k1 s1 a1 yY.length Bj lo1 hi1).toArray 115)) _ at i1
    have I1:=ah i1
    clear e1 i1 hJ3 hb3
    gi_wp2_with ((try refine⟨hdd _,?_⟩);gi_at_call 187;refine I1.out.mono ?_;clear I1;rintro e W3 (⟨rfl,YV,hk5⟩ | ⟨rfl,r,hr,hx3⟩))
    ·go_roundw
     case rel=>exact⟨j+1,hlt,by go_num,by rw[HT.out,←List.append_assoc];exact YV,hk4.trans hk5⟩
     case measure=>simp[intOf];omega
    ·go_ret
     refine HF.out _ _ (.inr ⟨rfl,gU (kids.take j)++r,?_,by rw[←List.append_assoc];exact hx3⟩)
     rw[HS.out]
     exact List.prefix_append_right_inj _ |>.2 (hr.trans (List.prefix_append _ _))
   ·obtain rfl:j=kids.length:=by omega
    rw[List.take_length] at wJ
    gi_wp2
    go_ret
    exact HF.out _ _ (.inl ⟨rfl,wJ,hkr⟩)
 ·gi_wp2
  go_ret
  exact .inr ⟨rfl,[Vt.mk k s a cap kids lo hi],⟨gU kids,by simp[jm]⟩,hx2⟩
theorem Za(F:Fence)(hd:F.depth=none)(n:Nat)(hF:F.fn 186)(hF2:F.fn 187)(hro:F.round=none)(l Bt Bx:Nat)(X:Nat→Prop)(hX:∀ b,X b→b<Bx)(J Jx:List Vt→World→Prop)(hJ:AbidesFrom Bx J)(V:Vt)
  (hY:∀ pre x W,J pre W→pre.length<(jm V).length→YieldAt F (n - 1) Tryz.prog l (Qa x) W fun e W'=>(e=.returned (.bool true)∧J (pre++[x]) W'∧aQ X W W')∨(e=.returned (.bool false)∧Jx (pre++[x]) W'))
  (W:World) (hB:Bx≤W.heap.size) (hBt:Box W Bt V.cells.toArray 115) (hL:Lies W V) (hO:On (fun b=>¬ X b) V) (h0:J [] W) :
  CallsIn F n Tryz.prog 186 #[.func (.yield l) #[] #[],.pointer (some ⟨Bt,0,none⟩)] W fun e W'=>(∃ v,e=.returned v)∧((∃ ys,ys=jm V∧J ys W')∨(∃ pre,pre <+: jm V∧Jx pre W')):=by
 have hdd:∀ k:Nat,(F.depth.isSome=true→1≤k):=fun k h=>by rw[hd] at h;cases h
 have hp:=Nw F hd hF2 hro l (jm V).length Bx X hX J Jx hJ (fun m pre x W hj hl=>Y7 hd m (hY pre x W hj hl)) V (n - 1) [] W hL hO hB h0 (by simp)
 have hq:∀ e W',Jr X J Jx [] (jm V) W e W'→(e=.returned (.bool true)∧J (jm V) W')∨(e=.returned (.bool false)∧∃ r,r <+: jm V∧Jx r W'):=fun e W' h=>by
  rcases h with⟨h1,h2,_⟩ | ⟨h1,r,h2,h3⟩
  ·exact .inl ⟨h1,by simpa using h2⟩
  ·exact .inr ⟨h1,r,h2,by simpa using h3⟩
 have hp2:=hp.mono hq
 clear hp hq hY hL hO h0
 generalize jm V=q at *
 obtain⟨k,s,a,cap,kids,lo,hi⟩:=V
 obtain⟨p0,p1,p2,p3,p4,p5,p6,p7⟩:=Box.node hBt
 change CallsIn _ _ _ _ #[.agg (aC k s a kids.length cap lo hi).toArray,_] _ _ at hp2
 refine callsIn_of_wp Tryz.func186 rfl hF ?_ hro
 simp only[Tryz.ntmps186,List.size_toArray,List.length_cons,List.length_nil,Nat.reduceAdd,Nat.reduceSub,Array.replicate_succ,Array.replicate_zero,List.push_toArray,List.append_toArray,List.nil_append,List.cons_append]
 gi_wp2_with ((try refine⟨hdd _,?_⟩);gi_at_call 187;refine hp2.mono ?_;clear hp2;rintro e W1 (⟨rfl,hJ1⟩ | ⟨rfl,r,hr,hx⟩))
 ·go_end0
  exact⟨⟨_,rfl⟩,.inl ⟨_,rfl,hJ1⟩⟩
 ·go_end0
  exact⟨⟨_,rfl⟩,.inr ⟨r,hr,hx⟩⟩
theorem UJ(F:Fence)(hd:F.depth=none)(n:Nat)(hF:F.fn 186)(hF2:F.fn 187)(hro:F.round=none)(Bt:Nat)(X:Nat→Prop)(V:Vt)(w:World)(hX:∀ b,X b→b<w.heap.size)
  (hBt:Box w Bt V.cells.toArray 115) (hL:Lies w V) (hO:On (fun b=>¬ X b) V) :
  SeqStopsK F n Tryz.prog 186 #[.pointer (some ⟨Bt,0,none⟩)] Qa (aQ X) (fun ys=>ys=jm V) (fun pre=>pre <+: jm V) (jm V).length w:=fun l J Jx W hW hJ _ hY h0 =>
 Za F hd n hF hF2 hro l Bt W.heap.size X (fun b hb=>Nat.lt_of_lt_of_le (hX b hb) hW.size) J Jx hJ V hY W (Nat.le_refl _) (hBt.kept hW) (hL.kept hW) hO h0
theorem acf(V:Vt)(w:World):Calls Tryz.prog 138 #[.agg V.cells.toArray] w fun e w'=>e=.returned (.func (.func 186) #[] #[.pointer (some ⟨w.heap.size,0,none⟩)])∧w'=w.alloc (.cells V.cells.toArray 115):=by
 obtain⟨k,s,a,cap,kids,lo,hi⟩:=V
 change Calls _ _ #[.agg (aC k s a kids.length cap lo hi).toArray] _ _
 go_enter Tryz.func138,Tryz.ntmps138
 go_wp2
 go_ret
 exact⟨rfl,rfl⟩
end
section
open Go.RowKit Go.Shelf
attribute [local go_sem] Oper.semAt_some
def yC(lo hi:Int):Bool:=decide (0≤lo)&&decide (lo≤1000)&&(decide (hi=-1)||(decide (lo≤hi)&&decide (hi≤1000)))
def Zb:List Int:=[-1,0,0,0,2,2,1,1,1,1]
def iH(k:Int):Int:=if 0≤k∧k<10 then Zb.getD k.toNat (-1) else -1
def dV(k:Int)(s:au)(n:Nat)(lo hi:Int):Bool :=
 (decide (k=3)||decide (s=0))&&(if k=9 then yC lo hi else decide (lo=0)&&decide (hi=0)) &&
  (if iH k=0 then decide (n=0) else if iH k=1 then decide (n=1) else if iH k=2 then decide (2≤n) else false)
mutual
def allT:Tr→Bool
 | .mk k s l lo hi=>dV k s l.length lo hi&&vH l
def vH:List Tr→Bool
 | []=>true
 | a::l=>allT a&&vH l
end
def iV(A:Tr):Bool:=decide (sizeT A≤4096)&&allT A
theorem KJ(lo hi:Int)(w:World):Calls Tryz.prog 188 #[.int .i64 lo,.int .i64 hi] w (aY w (.bool (yC lo hi))):=by
 go_enter Tryz.func188,Tryz.ntmps188
 go_wp2
 all_goals
  go_ret
  refine⟨congrArg (fun b=>Ending.returned (Value.bool b)) ?_,by go_grown⟩
  rw[Bool.eq_iff_iff]
  simp[yC]
  try omega
theorem Zc(n:Nat)(h:n<10):[Value.int .i64 (-1),.int .i64 0,.int .i64 0,.int .i64 0,.int .i64 2,.int .i64 2,.int .i64 1,.int .i64 1,.int .i64 1,.int .i64 1][n]?=some (.int .i64 (iH n)):=by
 match n,h with
 | 0,_=>rfl
 | 1,_=>rfl
 | 2,_=>rfl
 | 3,_=>rfl
 | 4,_=>rfl
 | 5,_=>rfl
 | 6,_=>rfl
 | 7,_=>rfl
 | 8,_=>rfl
 | 9,_=>rfl
theorem sF(k:Int)(w:World):Calls Tryz.prog 189 #[.int .i64 k] w (aY w (.int .i64 (iH k))):=by
 by_cases h0:k<0
 ·have e:iH k=-1:=by unfold iH;rw[if_neg (by omega)]
  rw[e]
  clear e
  go_enter Tryz.func189,Tryz.ntmps189
  go_wp2
  go_ret
  exact⟨rfl,by go_grown⟩
 ·by_cases h1:10≤k
  ·have e:iH k=-1:=by unfold iH;rw[if_neg (by omega)]
   rw[e]
   clear e
   go_enter Tryz.func189,Tryz.ntmps189
   go_wp2
   go_ret
   exact⟨rfl,by go_grown⟩
  ·obtain⟨n,rfl⟩:=Int.eq_ofNat_of_zero_le (show 0≤k by omega)
   have hn:n<10:=by omega
   have hg:=Zc n hn
   generalize iH (n:Int)=z at *
   go_enter Tryz.func189,Tryz.ntmps189
   go_wp2
   go_ret
   refine⟨congrArg Ending.returned ?_,by go_grown⟩
   obtain⟨_,hz⟩:=List.getElem?_eq_some_iff.1 hg
   simp
   exact hz
theorem UK(k:Int):iH k=-1∨iH k=0∨iH k=1∨iH k=2:=by
 unfold iH
 split
 ·rename_i h
  obtain⟨n,rfl⟩:=Int.eq_ofNat_of_zero_le h.1
  have hn:n<10:=by omega
  match n,hn with
  | 0,_ | 1,_ | 2,_ | 3,_ | 4,_ | 5,_ | 6,_ | 7,_ | 8,_ | 9,_=>decide
 ·exact .inl rfl
theorem Xh(k:Int)(s:au)(a:Option Addr)(n cap:Nat)(lo hi:Int)(w:World):Calls Tryz.prog 139 #[.agg (aC k s a n cap lo hi).toArray] w (aY w (.bool (dV k s n lo hi))):=by
 have hq:=ab5 (P:=Tryz.prog) (t:=113) (e:=111) Tryz.underlying113 Tryz.underlying111 (by kernel_rfl) s 0
 unfold iK at hq
 rw[gG] at hq
 by_cases h3:k=3
 ·subst h3
  have ar:iH 3=0:=by decide
  by_cases h1:lo=0
  ·subst h1
   by_cases h2:hi=0
   ·subst h2
    have e:dV 3 s n 0 0=((n:Int)==0):=by unfold dV;rw[ar];rw[Bool.eq_iff_iff];simp
    rw[e]
    clear e hq ar
    go_enter Tryz.func139,Tryz.ntmps139
    go_wp2_with (go_at_call 189;go_must (refine(sF 3 _).mono ?_;rintro e w1 ⟨rfl,hb⟩;rw[show iH 3=0 by decide];have x5:=((Box.new w (aC 3 s a n cap 0 0).toArray 115).kept hb).cell 5))
    go_ret
    exact⟨rfl,((Below.refl w.heap.size w).alloc (Nat.le_refl _) _).trans (hb.mono (by simp))⟩
   ·have e:dV 3 s n 0 hi=false:=by unfold dV;simp[h2]
    have g2:(hi != 0)=true:=by simpa using h2
    rw[e]
    clear e hq ar h2
    go_enter Tryz.func139,Tryz.ntmps139
    go_wp2
    go_ret
    exact⟨rfl,by go_grown⟩
  ·have e:dV 3 s n lo hi=false:=by unfold dV;simp[h1]
   have g1:(lo != 0)=true:=by simpa using h1
   rw[e]
   clear e hq ar h1
   go_enter Tryz.func139,Tryz.ntmps139
   go_wp2
   go_ret
   exact⟨rfl,by go_grown⟩
 ·have g3:(k != 3)=true:=by simpa using h3
  by_cases hs:s=0
  ·rw[decide_eq_true hs] at hq
   by_cases h9:k=9
   ·subst h9
    have ar:iH 9=1:=by decide
    cases ht:yC lo hi with
    | true =>
     have e:dV 9 s n lo hi=((n:Int)==1):=by
      unfold dV;rw[ar,ht,hs];rw[Bool.eq_iff_iff];simp;omega
     have HT:=ah ht
     rw[e]
     clear e hs h3 ar ht
     go_enter Tryz.func139,Tryz.ntmps139
     go_wp2_with (first | (go_at_call 188;go_must (refine(KJ lo hi _).mono ?_;rintro e w0 ⟨rfl,hb0⟩;rw[HT.out];have y:=(Box.new w (aC 9 s a n cap lo hi).toArray 115).kept hb0;have y0:=y.cell 0;have y5:=y.cell 5)) | (go_at_call 189;go_must (refine(sF 9 _).mono ?_;rintro e w1 ⟨rfl,hb⟩;rw[show iH 9=1 by decide];have x5:=(y.kept hb).cell 5)))
     go_ret
     exact⟨rfl,(((Below.refl w.heap.size w).alloc (Nat.le_refl _) _).trans (hb0.mono (by simp))).trans (hb.mono (by have:=hb0.size;simp at this;omega))⟩
    | false =>
     have e:dV 9 s n lo hi=false:=by unfold dV;simp[ht]
     have HT:=ah ht
     rw[e]
     clear e hs h3 ar ht
     go_enter Tryz.func139,Tryz.ntmps139
     go_wp2_with (go_at_call 188;go_must (refine(KJ lo hi _).mono ?_;rintro e w0 ⟨rfl,hb0⟩;rw[HT.out]))
     go_ret
     exact⟨rfl,((Below.refl w.heap.size w).alloc (Nat.le_refl _) _).trans (hb0.mono (by simp))⟩
   ·have g9:(k==9)=false:=by simpa using h9
    by_cases h1:lo=0
    ·subst h1
     by_cases h2:hi=0
     ·subst h2
      rcases UK k with hz | hz | hz | hz
      ·have e:dV k s n 0 0=false:=by unfold dV;rw[hz,hs];rw[Bool.eq_iff_iff];simp[h9]
       have HZ:=ah hz
       rw[e]
       clear e hz hs h3 h9
       go_enter Tryz.func139,Tryz.ntmps139
       go_wp2_with (go_at_call 189;go_must (refine(sF k _).mono ?_;rintro e w1 ⟨rfl,hb⟩;rw[HZ.out];have x5:=((Box.new w (aC k s a n cap 0 0).toArray 115).kept hb).cell 5))
       go_ret
       exact⟨rfl,((Below.refl w.heap.size w).alloc (Nat.le_refl _) _).trans (hb.mono (by simp))⟩
      ·have e:dV k s n 0 0=((n:Int)==0):=by unfold dV;rw[hz,hs];rw[Bool.eq_iff_iff];simp[h9]
       have HZ:=ah hz
       rw[e]
       clear e hz hs h3 h9
       go_enter Tryz.func139,Tryz.ntmps139
       go_wp2_with (go_at_call 189;go_must (refine(sF k _).mono ?_;rintro e w1 ⟨rfl,hb⟩;rw[HZ.out];have x5:=((Box.new w (aC k s a n cap 0 0).toArray 115).kept hb).cell 5))
       go_ret
       exact⟨rfl,((Below.refl w.heap.size w).alloc (Nat.le_refl _) _).trans (hb.mono (by simp))⟩
      ·have e:dV k s n 0 0=((n:Int)==1):=by unfold dV;rw[hz,hs];rw[Bool.eq_iff_iff];simp[h9];omega
       have HZ:=ah hz
       rw[e]
       clear e hz hs h3 h9
       go_enter Tryz.func139,Tryz.ntmps139
       go_wp2_with (go_at_call 189;go_must (refine(sF k _).mono ?_;rintro e w1 ⟨rfl,hb⟩;rw[HZ.out];have x5:=((Box.new w (aC k s a n cap 0 0).toArray 115).kept hb).cell 5))
       go_ret
       exact⟨rfl,((Below.refl w.heap.size w).alloc (Nat.le_refl _) _).trans (hb.mono (by simp))⟩
      ·have e:dV k s n 0 0=decide (2≤(n:Int)):=by unfold dV;rw[hz,hs];rw[Bool.eq_iff_iff];simp[h9];omega
       have HZ:=ah hz
       rw[e]
       clear e hz hs h3 h9
       go_enter Tryz.func139,Tryz.ntmps139
       go_wp2_with (go_at_call 189;go_must (refine(sF k _).mono ?_;rintro e w1 ⟨rfl,hb⟩;rw[HZ.out];have x5:=((Box.new w (aC k s a n cap 0 0).toArray 115).kept hb).cell 5))
       go_ret
       exact⟨rfl,((Below.refl w.heap.size w).alloc (Nat.le_refl _) _).trans (hb.mono (by simp))⟩
     ·have e:dV k s n 0 hi=false:=by unfold dV;simp[h2,h9]
      have g2:(hi != 0)=true:=by simpa using h2
      rw[e]
      clear e hs h3 h2 h9
      go_enter Tryz.func139,Tryz.ntmps139
      go_wp2
      go_ret
      exact⟨rfl,by go_grown⟩
    ·have e:dV k s n lo hi=false:=by unfold dV;simp[h1,h9]
     have g1:(lo != 0)=true:=by simpa using h1
     rw[e]
     clear e hs h3 h1 h9
     go_enter Tryz.func139,Tryz.ntmps139
     go_wp2
     go_ret
     exact⟨rfl,by go_grown⟩
  ·have e:dV k s n lo hi=false:=by unfold dV;rw[decide_eq_false h3,decide_eq_false hs];rfl
   rw[decide_eq_false hs] at hq
   rw[e]
   clear e h3 hs
   go_enter Tryz.func139,Tryz.ntmps139
   go_wp2
   go_ret
   exact⟨rfl,by go_grown⟩
end
section
open Go.RowKit Go.Shelf
attribute [local go_sem] Oper.semAt_some
def Dj:Vt→Bool
 | .mk k s _ _ kids lo hi=>dV k s kids.length lo hi
def Good(l:List Vt):Prop:=l.length≤4096∧∀ x∈l,Dj x=true
theorem Good.snoc{l:List Vt}{x:Vt}(h:Good l)(hl:l.length+1≤4096)(hx:Dj x=true):Good (l++[x]) :=
 ⟨by simpa using hl,fun y hy=>(List.mem_append.1 hy).elim (h.2 y) fun e=>by rw[List.mem_singleton.1 e];exact hx⟩
theorem Good.Zd{l m:List Vt}(h:Good m)(hp:l <+: m):Good l:=⟨Nat.le_trans hp.length_le h.1,fun x hx=>h.2 x (hp.subset hx)⟩
theorem acg:∀ V:Vt,allT V.tr=true↔∀ x∈jm V,Dj x=true:=by
 refine Vt.ind fun k s a cap kids lo hi ih=>?_
 have key:∀ l:List Vt,(∀ i (h:i<l.length),allT (Vt.tr l[i])=true↔∀ x∈jm l[i],Dj x=true)→(vH (l.map Vt.tr)=true↔∀ x∈gU l,Dj x=true):=by
  intro l
  induction l with
  | nil=>intro _;simp[vH,gU]
  | cons a l ihl =>
   intro h
   have h0:=h 0 (by simp)
   have h1:=ihl fun i hi=>h (i+1) (Nat.succ_lt_succ hi)
   simp only[List.getElem_cons_zero] at h0
   simp only[List.map_cons,vH,gU,Bool.and_eq_true,h0,h1,List.mem_append]
   constructor
   ·rintro⟨g0,g1⟩ x (hx | hx)
    ·exact g0 x hx
    ·exact g1 x hx
   ·exact fun g=>⟨fun x hx=>g x (.inl hx),fun x hx=>g x (.inr hx)⟩
 rw[Vt.jJ]
 simp only[allT,jm,Bool.and_eq_true,key kids ih,List.length_map,List.mem_cons]
 constructor
 ·rintro⟨g0,g1⟩ x (rfl | hx)
  ·exact g0
  ·exact g1 x hx
 ·exact fun g=>⟨g _ (.inl rfl),fun x hx=>g x (.inr hx)⟩
theorem Ze(V:Vt):iV V.tr=true↔Good (jm V):=by
 unfold iV Good
 rw[Bool.and_eq_true,acg,decide_eq_true_eq,acd]
def agM(b B:Nat)(w:World)(pre:List Vt)(W:World):Prop:=(Box W (b+1) #[.bool false] 4∧Box W (b+1+1) #[.int .i64 (pre.length:Nat)] 3)∧(Good pre∧B≤W.heap.size)∧Below b w W
def agN(b:Nat)(w:World)(c:Code)(pre:List Vt)(W:World):Prop:=c=.ret∧Box W (b+1) #[.bool false] 4∧¬ Good pre∧Below b w W
def agO(b B:Nat)(V x:Vt)(a':Act)(W:World):Prop:=∃ Bx,B≤Bx∧Box W Bx x.cells.toArray 115 ∧
 a'={ tmps:=#[.agg V.cells.toArray,.pointer (some ⟨b,0,none⟩),.pointer (some ⟨b+1,0,none⟩),.pointer (some ⟨b+1+1,0,none⟩),.pointer (some ⟨Bx,0,none⟩),.agg V.cells.toArray,.func (.func 186) #[] #[.pointer (some ⟨b+1+1+1,0,none⟩)],.agg x.cells.toArray,undef,undef,undef,undef,undef,undef,undef,undef,undef],defers:=[] }
set_option maxRecDepth 100000 in
theorem Ea(V:Vt)(w:World)(hL:Lies w V):Calls Tryz.prog 101 #[.agg V.cells.toArray] w (aY w (.bool (iV V.tr))):=by
 have hr:=Ze V
 have hN:=acf V
 refine(callsIn_wide (n:=6)).1 ?_
 refine callsIn_of_wp_marks Tryz.func101 rfl trivial ?_ rfl
 obtain⟨k,s,a,cap,kids,lo,hi⟩:=V
 change Code.wpIn _ _ _ _ _ { tmps:=#[.agg (aC k s a kids.length cap lo hi).toArray]++_,defers:=[] } _
 change ∀ w,Calls _ _ #[.agg (aC k s a kids.length cap lo hi).toArray] _ _ at hN
 have HR:=ah hr
 clear hr
 simp only[Tryz.ntmps101,List.size_toArray,List.length_cons,List.length_nil,Nat.reduceAdd,Nat.reduceSub,Array.replicate_succ,Array.replicate_zero,List.push_toArray,List.append_toArray,List.nil_append,List.cons_append]
 gi_wp2_with (refine⟨trivial,?_⟩;gi_at_call 138;refine(callsIn_wide.2 (hN _)).mono ?_;rintro e w' ⟨rfl,rfl⟩)
 have hL0:=hL
 clear hL
 obtain⟨V,hV⟩:∃ V,V=Vt.mk k s a cap kids lo hi:=⟨_,rfl⟩
 rw[←hV] at hL0 HR ⊢
 have hVc:.agg (aC k s a kids.length cap lo hi).toArray=Value.agg V.cells.toArray:=by rw[hV];rfl
 rw[hVc]
 have HV:=ah hV
 clear hN hVc hV
 obtain⟨W0,hW0⟩:∃ W0,((((w.alloc (.cells (aC k s a kids.length cap lo hi).toArray 115)).alloc (.cells #[.bool false] 4)).alloc (.cells #[.int .i64 0] 3)).alloc (.cells V.cells.toArray 115))=W0:=⟨_,rfl⟩
 have hB0:Below w.heap.size w W0:=by rw[←hW0];go_grown
 have hsz0:W0.heap.size=w.heap.size+1+1+1+1:=by rw[←hW0];simp
 have hbt:Box W0 (w.heap.size+1+1+1) V.cells.toArray 115:=by rw[←hW0];exact Box.new' (by simp) _ _
 have hn0:Box W0 (w.heap.size+1+1) #[.int .i64 0] 3:=by rw[←hW0];exact(Box.new' (by simp) _ _).alloc _
 have hr0:Box W0 (w.heap.size+1) #[.bool false] 4:=by rw[←hW0];exact((Box.new' (by simp) _ _).alloc _).alloc _
 rw[hW0]
 clear hW0
 have hO:On (fun b=>¬ (b=w.heap.size+1∨b=w.heap.size+1+1)) V:=hL0.on.mono fun b hb=>by omega
 have hst:=UJ Fence.wide rfl 5 trivial trivial rfl (w.heap.size+1+1+1) (fun b=>b=w.heap.size+1∨b=w.heap.size+1+1) V W0 (fun b hb=>by omega) hbt (hL0.kept hB0) hO
 refine wpIn_rangeFunc_ownH rfl (by decide) (gf:=186) (lb:=#[.pointer (some ⟨w.heap.size+1+1+1,0,none⟩)]) rfl trivial (enters_of Tryz.func186 (by kernel_rfl) rfl)
  hst (fun h k=>h.trans k) Hy (Below.refl _ _) (fun _=>rfl)
  (agM w.heap.size W0.heap.size w) (agN w.heap.size w)
  (OwnFrom.and (OwnFrom.and (iC _ _ _ _) (iC _ _ _ _)) (OwnFrom.and (fun _ _ _ _ h hg _=>⟨h.1,Nat.le_trans h.2 hg.size⟩) (ownFrom_below (Nat.le_refl _) (by omega))))
  (fun _=>OwnFrom.and (fun _ _ _ _ h _ _=>h) (OwnFrom.and (iC _ _ _ _) (OwnFrom.and (fun _ _ _ _ h _ _=>h) (ownFrom_below (Nat.le_refl _) (by omega)))))
  ⟨⟨hr0,hn0⟩,⟨⟨Nat.zero_le _,fun x h=>by simp at h⟩,Nat.le_refl _⟩,hB0⟩
  (agO w.heap.size W0.heap.size V)
  (fun x a'=>fun s W W' row ⟨Bx,h1,h2,h3⟩ hg hr=>⟨Bx,h1,iC W0.heap.size Bx _ (fun _:Unit=>x.cells.toArray) () W W' row h2 hg hr,h3⟩) ?assign ?body ?done ?stop
 case assign =>
  rintro l pre ⟨k1,s1,a1,Bj,yY,lo1,hi1⟩ W K ⟨⟨i1,i2⟩,⟨i3,hWs⟩,i4⟩ hK
  dsimp only[Qa]
  change Code.wpIn _ _ _ _ _ { tmps:=(#[7].zip #[Value.agg (aC k1 s1 a1 yY.length Bj lo1 hi1).toArray]).foldl _ _,defers:=_ } _
  gi_wp2
  exact hK _ _ ((KeepsOthers.alloc _ _).from _) (aQ.below ((Below.refl _ W).alloc (Nat.le_refl _) _)) ⟨⟨i1.alloc _,i2.alloc _⟩,⟨i3,by simp;omega⟩,i4.alloc i4.size _⟩ ⟨W.heap.size,hWs,Box.new W _ _,rfl⟩
 case body =>
  rintro l pre ⟨k1,s1,a1,Bj,yY,lo1,hi1⟩ a' W hl ⟨r,hr⟩ ⟨⟨i1,i2⟩,⟨i3,hWs⟩,i4⟩ ⟨Bx,hBx,bx,rfl⟩ hlt
  have hpl:=i3.1
  have HG:=ah i3
  have r0:=i1.cell 0
  have r1:=i1.free 0
  have m0:=i2.cell 0
  have m1:=i2.free 0
  have bx':Box (W.setCell ⟨w.heap.size+1+1,0,none⟩ (.int .i64 ((pre.length:Int)+1))) Bx (aC k1 s1 a1 yY.length Bj lo1 hi1).toArray 115:=bx.other _ _ (by simp;omega)
  have i2':Box (W.setCell ⟨w.heap.size+1+1,0,none⟩ (.int .i64 ((pre.length:Int)+1))) (w.heap.size+1+1) #[.int .i64 ((pre.length:Int)+1)] 3:=i2.set 0 _
  have Q7:Box (W.setCell ⟨w.heap.size+1+1,0,none⟩ (.int .i64 ((pre.length:Int)+1))) (w.heap.size+1) #[.bool false] 4:=i1.other _ _ (by simp)
  have hKO:=KeepsOthers.setCell W ⟨w.heap.size+1+1,0,none⟩ (.int .i64 ((pre.length:Int)+1))
  have hKC:=aQ.set (X:=fun b=>b=w.heap.size+1∨b=w.heap.size+1+1) W ⟨w.heap.size+1+1,0,none⟩ (.int .i64 ((pre.length:Int)+1)) (.inr rfl)
  have Zf:=i4.setCell (p:=⟨w.heap.size+1+1,0,none⟩) (by simp;omega) (.int .i64 ((pre.length:Int)+1))
  obtain⟨x0,x1,x2,x3,x4,x5,x6,x7⟩:=bx'.node
  have hcast:((pre.length:Int)+1)=(((pre++[Vt.mk k1 s1 a1 Bj yY lo1 hi1]).length:Nat):Int):=by simp
  have HC:=ah hcast
  have y1:=Q7.free 0
  have y2:=Q7.cell 0
  clear hcast i1 i2 bx bx' i3
  by_cases h4:4096<(pre.length:Int)+1
  ·gi_wp2
   refine⟨trivial,?_⟩
   gi_wp2
   refine⟨(hKO.trans (KeepsOthers.setCell _ _ _)).from _,rfl,Q7.set 0 _,fun hg=>?_,Zf.setCell (by simp) _⟩
   have:=hg.1
   simp at this
   omega
  ·have hal:=Xh k1 s1 a1 yY.length Bj lo1 hi1
   cases ha:dV k1 s1 yY.length lo1 hi1 with
   | true =>
    rw[ha] at hal
    have HA:=ah ha
    clear ha
    gi_wp2_with (refine⟨trivial,?_⟩;gi_at_call 139;refine(CallsIn.inRound l (callsIn_wide.2 (hal _))).mono ?_;rintro e w1 ⟨rfl,hb⟩)
    refine⟨?_,hKC.trans (aQ.below hb),⟨Q7.kept hb,by rw[←HC.out];exact i2'.kept hb⟩,⟨HG.out.snoc (by omega) HA.out,?_⟩,Zf.trans (hb.mono Zf.size)⟩
    ·exact(hKO.trans (KeepsOthers.of_grownBy (row:=none) ⟨hb.os,hb.tape,hb.output,hb.size,fun k hk _=>hb.block k hk⟩ (fun j o e=>by cases e))).from _
    ·have:=hKC.size;have:=hb.size;omega
   | false =>
    rw[ha] at hal
    have HA:=ah ha
    clear ha
    gi_wp2_with (refine⟨trivial,?_⟩;gi_at_call 139;refine(CallsIn.inRound l (callsIn_wide.2 (hal _))).mono ?_;rintro e w1 ⟨rfl,hb⟩;have z1:=(Q7.kept hb).free 0;have z2:=(Q7.kept hb).cell 0)
    refine⟨((hKO.trans (KeepsOthers.of_grownBy (row:=none) ⟨hb.os,hb.tape,hb.output,hb.size,fun k hk _=>hb.block k hk⟩ (fun j o e=>by cases e))).trans (KeepsOthers.setCell _ _ _)).from _,rfl,(Q7.kept hb).set 0 _,fun hg=>?_,(Zf.trans (hb.mono Zf.size)).setCell (by simp) _⟩
    have:=hg.2 _ (List.mem_append_right _ (List.mem_singleton_self _))
    rw[show Dj (Vt.mk k1 s1 a1 Bj yY lo1 hi1)=dV k1 s1 yY.length lo1 hi1 from rfl,HA.out] at this
    cases this
 case done =>
  rintro D ys W hD rfl ⟨⟨i1,i2⟩,⟨i3,hWs⟩,i4⟩ hK
  have r0:=i1.cell 0
  have r1:=i1.free 0
  have hR:iV V.tr=true:=HR.out.2 i3
  gi_wp2
  have hK':=(KeepsOthers.setCell W ⟨w.heap.size+1,0,none⟩ (.bool true)).same D _ hK rfl
  refine⟨by simp,.inl ⟨_,_,rfl,run_takeDeferred hK',?_⟩⟩
  have hc5:=(iC W0.heap.size (w.heap.size+1) 4 (fun _:Unit=>#[.bool true]) () _ _ (some D) (i1.set 0 (.bool true)) (grownBy_putObj' _ D (.deferred none)) (fun r e=>by cases e;exact⟨by omega,_,hK',rfl⟩)).cell 0
  refine⟨.bool true,?_,by rw[←HV.out,hR],(i4.setCell (p:=⟨w.heap.size+1,0,none⟩) (by simp) _).trans (belowK_b (w:=w) (Nat.le_refl _) _ D _ _ (by omega) hK' rfl rfl)⟩
  simp[results,Tryz.f101,go_sem,hc5]
 case stop =>
  rintro D c pre W hD hpre ⟨rfl,i1,i3,i4⟩ hK
  have hR:iV V.tr=false:=by rw[←Bool.not_eq_true,HR.out];exact fun hg=>i3 (hg.Zd hpre)
  gi_wp2
  refine⟨by simp,.inl ⟨_,_,rfl,run_takeDeferred hK,?_⟩⟩
  have hc5:=(iC W0.heap.size (w.heap.size+1) 4 (fun _:Unit=>#[.bool false]) () _ _ (some D) i1 (grownBy_putObj' _ D (.deferred none)) (fun r e=>by cases e;exact⟨by omega,_,hK,rfl⟩)).cell 0
  refine⟨.bool false,?_,by rw[hR],i4.trans (belowK_b (w:=w) (Nat.le_refl _) W D _ _ (by omega) hK rfl rfl)⟩
  simp[results,Tryz.f101,go_sem,hc5]
end
section
open Go.ChangeShapes Go.WideShapes Go.ChangeAt Go.RowKit
theorem ajI:laidOutB Tryz.pinned.checked.prog=true:=by kernel_rfl
theorem agQ:mapsRowed Tryz.pinned.checked.prog=true:=by kernel_rfl
theorem agR:Tryz.pinned.checked.prog.stopsHeard=true:=by kernel_rfl
theorem agS:Tryz.pinned.checked.prog.mayEnter=true:=by kernel_rfl
theorem own:ownKnob Tryz.prog.godebug=none:=by kernel_rfl
theorem laidOut:laidOutB Tryz.prog=true:=by kernel_rfl
theorem gTab:Tryz.prog.globalNamed "math/bits.deBruijn64tab"=some 1:=by kernel_rfl
theorem ach:(Tryz.prog.globals[1]?).map (·.type)=some 320:=by kernel_rfl
theorem Q8 {W:World} (h:Lib.TabIs Tryz.prog W "math/bits.deBruijn64tab" .u8 (Lib.deBruijn64tab.map fun(x:Nat)=>(x:Int))):Tab W:=fun j hj=>by
 have:=h.cell gTab j (by simpa [Lib.deBruijn64tab] using hj)
 rw[this]
 have e:(Lib.deBruijn64tab.map fun(x:Nat)=>(x:Int)).getD j 0=((Lib.deBruijn64tab.getD j 0:Nat):Int):=by
  simp only[List.getD,List.getElem?_map]
  cases Lib.deBruijn64tab[j]? <;> rfl
 rw[e]
noncomputable def laidWorld(os:Os):World :=
 { World.holding Tryz.prog os ⟨#[],#[],[]⟩ with heap:=(World.holding Tryz.prog os ⟨#[],#[],[]⟩).heap.modify 1 fun
   | .cells _ t frozen=>.cells (Lib.deBruijn64tab.map fun(x:Nat)=>Value.int .u8 x).toArray t frozen
   | o=>o }
end
end Go.Proofs.YtengfapcaaacaaaGreatDoor
