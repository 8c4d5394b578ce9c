/- The texts of B10, in few letters (mini.py). -/
import Derived.Test.YtaoinbjjolikhaaGreatDoorM9
set_option linter.unusedVariables false
set_option linter.unusedSimpArgs false
set_option maxHeartbeats 1600000
set_option maxRecDepth 20000
namespace Go.Proofs.YtaoinbjjolikhaaGreatDoor
section
open Go.RowKit
def stepM(s:Nat×Bool)(b:Nat):Nat×Bool:=if s.1=0∨b=0 then (0,s.2) else if s.2=true∨aH / b<s.1 then (s.1,true) else (s.1*b,s.2)
theorem acN{s:Nat×Bool}{b:Nat}(h:s.1≤aH):(stepM s b).1≤aH:=by
 unfold stepM
 split
 ·simp[aH]
 ·split
  ·exact h
  ·rename_i h1 h2
   have hb:0<b:=by omega
   have h3:s.1*b≤aH / b*b:=Nat.mul_le_mul_right _ (by have:¬ aH / b<s.1:=fun e=>h2 (.inr e);omega)
   exact Nat.le_trans h3 (Nat.div_mul_le_self _ _)
def foldM(l:List Nat):Nat×Bool:=l.foldl stepM (1,false)
theorem Sj(l:List Nat):(foldM l).1≤aH:=by
 have:∀ (l:List Nat) (s:Nat×Bool),s.1≤aH→(l.foldl stepM s).1≤aH:=by
  intro l
  induction l with
  | nil=>intro a h;exact h
  | cons x l ih=>intro a h;exact ih _ (acN h)
 exact this l (1,false) (by simp[aH])
theorem XR(l:List Nat)(i:Nat)(h:i<l.length):foldM (l.take (i+1))=stepM (foldM (l.take i)) l[i]:=by
 unfold foldM;rw[List.take_succ_eq_append_getElem h,List.foldl_append];rfl
def mulR(s:Nat×Bool):Nat:=if s.1≠0∧s.2=true then aH else s.1
theorem mul_two(a b:Nat):mulR (foldM [a,b])=mulN a b:=by
 show mulR (stepM (stepM (1,false) a) b)=mulN a b
 by_cases ha:a=0
 ·subst ha;simp[stepM,mulR,mulN]
 by_cases hb:b=0
 ·subst hb
  have:(stepM (stepM (1,false) a) 0).1=0:=by unfold stepM;rw[if_pos (.inr rfl)]
  simp[this,mulR,mulN]
 have hm:mulN a b=if aH / b<a then aH else a*b:=by unfold mulN;rw[if_neg (by omega:¬ (a=0∨b=0))]
 rw[hm]
 by_cases h1:aH / a<1
 ·have e1:stepM (1,false) a=(1,true):=by unfold stepM;rw[if_neg (by simp;omega),if_pos (.inr h1)]
  have e2:stepM (1,true) b=(1,true):=by unfold stepM;rw[if_neg (by simp;omega),if_pos (.inl rfl)]
  rw[e1,e2]
  have h2:aH<a:=by
   rcases Nat.lt_or_ge aH a with h | h
   ·exact h
   ·have:=Nat.div_pos h (by omega:0<a);omega
  have h3:aH / b<a:=Nat.lt_of_le_of_lt (Nat.div_le_self _ _) h2
  rw[if_pos h3];simp[mulR]
 ·have e1:stepM (1,false) a=(a,false):=by unfold stepM;rw[if_neg (by simp;omega),if_neg (by rintro(h | h);cases h;exact h1 h)];simp
  rw[e1]
  by_cases h2:aH / b<a
  ·have e2:stepM (a,false) b=(a,true):=by unfold stepM;rw[if_neg (by simp;omega),if_pos (.inr h2)]
   rw[e2,if_pos h2];simp[ha,mulR]
  ·have e2:stepM (a,false) b=(a*b,false):=by unfold stepM;rw[if_neg (by simp;omega),if_neg (by rintro(h | h);cases h;exact h2 h)]
   rw[e2,if_neg h2];simp[mulR]
theorem acO(v b b1 b2:Nat)(y:Bool)(w:World)(_:v≤aH)(hb:b≤9223372036854775807)(hY:Box w b1 #[.bool y] 4)(hB:Box w b2 #[.int .i64 (aH:Nat)] 3) :
  Calls Tryz.prog 216 #[.int .i64 v,.int .i64 b,.pointer (some ⟨b1,0,none⟩),.pointer (some ⟨b2,0,none⟩)] w (fun e w'=>e=.returned (.int .i64 ((stepM (v,y) b).1:Nat))∧(w'=w∧(stepM (v,y) b).2=y∨w'=w.setCell ⟨b1,0,none⟩ (.bool true)∧(stepM (v,y) b).2=true)):=by
 have c0:w.cell? ⟨b2,0,none⟩=some (.int .i64 1099511627776):=hB.cell 0
 have c1:w.cell? ⟨b1,0,none⟩=some (.bool y):=hY.cell 0
 have f1:=hY.free 0
 clear hB hY
 by_cases h1:v=0
 ·have e:stepM (v,y) b=(0,y):=by unfold stepM;rw[if_pos (.inl h1)]
  rw[e]
  have e1:((v:Int)==0)=true:=by rw[h1];rfl
  clear e h1
  go_enter Tryz.func216,Tryz.ntmps216
  go_wp2
  go_ret
  exact⟨rfl,.inl ⟨rfl,by trivial⟩⟩
 have e1:((v:Int)==0)=false:=by rw[beq_eq_false_iff_ne];omega
 by_cases h2:b=0
 ·have e:stepM (v,y) b=(0,y):=by unfold stepM;rw[if_pos (.inr h2)]
  rw[e]
  have e2:((b:Int)==0)=true:=by rw[h2];rfl
  clear e h2 h1
  go_enter Tryz.func216,Tryz.ntmps216
  go_wp2
  go_ret
  exact⟨rfl,.inl ⟨rfl,by trivial⟩⟩
 have e2:((b:Int)==0)=false:=by rw[beq_eq_false_iff_ne];omega
 have hb0:¬ (b:Int)=0:=by omega
 cases y with
 | true =>
  have e:stepM (v,true) b=(v,true):=by unfold stepM;rw[if_neg (by simp;omega),if_pos (.inl rfl)]
  rw[e]
  clear e h2 h1
  go_enter Tryz.func216,Tryz.ntmps216
  go_wp2
  go_ret
  exact⟨rfl,.inr ⟨rfl,by trivial⟩⟩
 | false =>
  by_cases h3:aH / b<v
  ·have e:stepM (v,false) b=(v,true):=by unfold stepM;rw[if_neg (by simp;omega),if_pos (.inr h3)]
   rw[e]
   unfold aH at h3
   have h4:(1099511627776:Int) / (b:Int)<(v:Int):=by
    have:((1099511627776 / b:Nat):Int)=(1099511627776:Int) / (b:Int):=by simp
    omega
   clear e h2 h1 h3
   go_enter Tryz.func216,Tryz.ntmps216
   go_wp2
   go_ret
   exact⟨rfl,.inr ⟨rfl,by trivial⟩⟩
  ·have e:stepM (v,false) b=(v*b,false):=by unfold stepM;rw[if_neg (by simp;omega),if_neg (by rintro(h | h);cases h;exact h3 h)]
   rw[e]
   unfold aH at h3
   have h4:¬ (1099511627776:Int) / (b:Int)<(v:Int):=by
    have:((1099511627776 / b:Nat):Int)=(1099511627776:Int) / (b:Int):=by simp
    omega
   have h5:v*b≤1099511627776:=by
    have hb3:v*b≤1099511627776 / b*b:=Nat.mul_le_mul_right _ (by omega)
    exact Nat.le_trans hb3 (Nat.div_mul_le_self _ _)
   clear e h2 h1 h3
   go_enter Tryz.func216,Tryz.ntmps216
   go_wp2
   go_ret
   refine⟨by simp,?_⟩
   first | rfl | exact .inl ⟨rfl,by trivial⟩
theorem acP(b o cap n b1 b2:Nat)(l:List Nat)(w:World)(h:ak w (.slice (some ⟨b,o,none⟩) n cap) 1 aS l)(hl:∀ x∈l,x≤9223372036854775807)(hY:Box w b1 #[.bool false] 4)(hB:Box w b2 #[.int .i64 (aH:Nat)] 3)(hne:b2≠b1)(hbb:b≠b1) :
  Calls Tryz.prog 144 #[.int .i64 1,.slice (some ⟨b,o,none⟩) n cap,.func (.func 216) #[] #[.pointer (some ⟨b1,0,none⟩),.pointer (some ⟨b2,0,none⟩)]] w (fun e w'=>e=.returned (.int .i64 ((foldM l).1:Nat))∧Box w' b1 #[.bool (foldM l).2] 4∧Box w' b2 #[.int .i64 (aH:Nat)] 3∧∀ B,B≤b1→B≤w.heap.size→Below B w w'):=by
 obtain⟨hn,hcap,hc63,hcell⟩:=ak.cellsA (f:=fun n:Nat=>Value.int .i64 n) h
 have hcell2:∀ i (h:i<l.length) (w':World),w'.heap[b]?=w.heap[b]?→w'.cell? ⟨b,o+i,none⟩=some (.int .i64 (l[i]:Nat)):=fun i hi w' hw=>(World.cell?_of_block (a:=⟨b,o+i,none⟩) hw).trans (hcell i hi w (Below.refl _ _))
 have HC:=ah hcell2
 have HN:=ah hn
 have HL:=ah hl
 have hn63:n≤9223372036854775807:=by omega
 clear h hcell hcell2 hn hcap hc63 hl
 go_enter Tryz.func144,Tryz.ntmps144
 go_wp2
 go_loopw [7,13] (fun v i wr=>∃ k:Nat,k≤n∧i=.int .i64 k∧v=.int .i64 ((foldM (l.take k)).1:Nat)∧Box wr b1 #[.bool (foldM (l.take k)).2] 4∧Box wr b2 #[.int .i64 (aH:Nat)] 3∧wr.heap[b]?=w.heap[b]?∧∀ B,B≤b1→B≤w.heap.size→Below B w wr) (fun _ i _=>n - (intOf i).toNat)
 case atStart=>exact⟨0,Nat.zero_le _,rfl,rfl,hY,hB,rfl,fun B _ _=>Below.refl _ _⟩
 case round =>
  clear hY hB
  obtain⟨k,hk,rfl,rfl,hY,hB,hbk,hBl⟩:=hrel
  by_cases hlt:k<n
  ·have hk2:k<l.length:=by rw[←HN.out];exact hlt
   have y0:=HC.out k hk2 wr hbk
   have hx:=HL.out _ (List.getElem_mem hk2)
   have hst:=acO (foldM (l.take k)).1 l[k] b1 b2 (foldM (l.take k)).2 wr (Sj _) hx hY hB
   have hft:=XR l k hk2
   have HFT:=ah hft
   clear hft
   generalize l[k]=x at *
   generalize foldM (l.take k)=s at *
   obtain⟨s1,s2⟩:=s
   have h0x:(0:Int)≤(x:Int):=by omega
   have hmx:max (x:Int) 0=(x:Int):=by omega
   have HS:=ah hst
   clear hst hx
   have hki:(k:Int)<(n:Int):=by omega
   have hk0:(0:Int)≤(k:Int):=by omega
   go_wp2_with (go_at_call 216;go_must (refine HS.out.mono ?_;rintro e w2 ⟨rfl,hw2⟩))
   refine⟨⟨k+1,hlt,by push_cast;rfl,by rw[HFT.out],?_,?_,?_,?_⟩,by simp[intOf];omega⟩
   ·rw[HFT.out]
    rcases hw2 with⟨rfl,h2⟩ | ⟨rfl,h2⟩
    ·rw[h2];exact hY
    ·rw[h2];exact hY.set 0 _
   ·rcases hw2 with⟨rfl,_⟩ | ⟨rfl,_⟩
    ·exact hB
    ·exact hB.other _ _ hne
   ·rcases hw2 with⟨rfl,_⟩ | ⟨rfl,_⟩
    ·exact hbk
    ·exact(heap_setCell_other wr ⟨b1,0,none⟩ b _ hbb).trans hbk
   ·intro B h1 h2
    rcases hw2 with⟨rfl,_⟩ | ⟨rfl,_⟩
    ·exact hBl B h1 h2
    ·exact(hBl B h1 h2).setCell (p:=⟨b1,0,none⟩) h1 _
  ·obtain rfl:k=n:=by omega
   rw[List.take_of_length_le (by rw[HN.out];exact Nat.le_refl _)] at hY ⊢
   go_wp2
   go_ret
   exact⟨rfl,hY,hB,hBl⟩
theorem Wj(b o cap n:Nat)(l:List Nat)(w:World)(h:ak w (.slice (some ⟨b,o,none⟩) n cap) 1 aS l)(hl:∀ x∈l,x≤9223372036854775807)(hb:b<w.heap.size) :
  Calls Tryz.prog 191 #[.int .i64 (aH:Nat),.slice (some ⟨b,o,none⟩) n cap] w (aX w (.int .i64 (mulR (foldM l):Nat))):=by
 have hmf:∀ (fn:Fn) (first cap:Array Value) (w:World),(Instr.makeFunc fn first cap).run Tryz.prog w=.ok (.func fn first cap) w:=fun _ _ _ _=>rfl
 have hB0:Below w.heap.size w ((w.alloc (.cells #[.int .i64 (aH:Nat)] 3)).alloc (.cells #[.bool false] 4)):=((Below.refl _ w).alloc (Nat.le_refl _) _).alloc (by simp) _
 have hf:=acP b o cap n (w.heap.size+1) w.heap.size l _ (h.kept hB0) hl (Box.new' (by simp) _ _) ((Box.new w _ _).alloc _) (by omega) (by omega)
 have HF:=ah hf
 have hle:=Sj l
 unfold aH at HF hB0 hle
 have hv:mulR (foldM l)=if (foldM l).1≠0∧(foldM l).2=true then 1099511627776 else (foldM l).1:=rfl
 rw[hv]
 unfold aH
 generalize foldM l=s at *
 obtain⟨s1,s2⟩:=s
 dsimp only at hle
 clear hf h hl hv
 by_cases h1:s1=0
 ·subst h1
  rw[if_neg (by simp)]
  go_enter Tryz.func191,Tryz.ntmps191
  go_wp2_with (go_at_call 144;go_must (refine HF.out.mono ?_;rintro e w2 ⟨rfl,hY2,hT2,hb2⟩;have c0:w2.cell? ⟨w.heap.size,0,none⟩=some (.int .i64 1099511627776):=hT2.cell 0;have c1:w2.cell? ⟨w.heap.size+1,0,none⟩=some (.bool s2):=hY2.cell 0))
  go_ret
  exact⟨rfl,hB0.trans (hb2 _ (by omega) hB0.size)⟩
 ·have e1:((s1:Int) != 0)=true:=by rw[bne_iff_ne];omega
  have hmin:min (s1:Int) 1099511627776=(s1:Int):=by omega
  have hle2:(s1:Int)≤1099511627776:=by omega
  cases s2 with
  | true =>
   rw[if_pos ⟨h1,rfl⟩]
   clear h1
   go_enter Tryz.func191,Tryz.ntmps191
   go_wp2_with (go_at_call 144;go_must (refine HF.out.mono ?_;rintro e w2 ⟨rfl,hY2,hT2,hb2⟩;have c0:w2.cell? ⟨w.heap.size,0,none⟩=some (.int .i64 1099511627776):=hT2.cell 0;have c1:w2.cell? ⟨w.heap.size+1,0,none⟩=some (.bool true):=hY2.cell 0))
   go_ret
   exact⟨rfl,hB0.trans (hb2 _ (by omega) hB0.size)⟩
  | false =>
   rw[if_neg (by simp)]
   clear h1
   go_enter Tryz.func191,Tryz.ntmps191
   go_wp2_with (go_at_call 144;go_must (refine HF.out.mono ?_;rintro e w2 ⟨rfl,hY2,hT2,hb2⟩;have c0:w2.cell? ⟨w.heap.size,0,none⟩=some (.int .i64 1099511627776):=hT2.cell 0;have c1:w2.cell? ⟨w.heap.size+1,0,none⟩=some (.bool false):=hY2.cell 0))
   go_ret
   exact⟨rfl,hB0.trans (hb2 _ (by omega) hB0.size)⟩
end
section
open Go.RowKit
theorem dR:gq aS 1:=⟨fun _=>rfl,fun x u hu=>by simp[aS] at hu;subst hu;rfl⟩
theorem xZ:∀ (l:List Tr) (a:Nat),a≤aH→bW a l≤aH
 | [],a,h=>by rw[bW];exact h
 | x::l,a,h=>by rw[bW];exact xZ l _ (sQ h)
theorem zG(x:Tr):bG x≤aH:=by
 obtain⟨k,s,kids,lo,hi⟩:=x
 rw[bG]
 have h0:=xZ kids 0 (by simp[aH])
 split
 ·exact h0
 ·split
  ·dsimp only
   split
   ·simp[aH]
   ·split
    ·exact sQ (sQ DC)
    ·split
     ·exact sQ (sQ DC)
     ·exact DC
  ·exact sQ h0
theorem FW{a:Nat}(h:a≤aH):addN 0 a=a:=by unfold addN;rw[if_neg (by omega)];omega
theorem Aj{a b:Nat}(h:a≤aH):Ai [a,b]=addN a b:=by
 show addN (addN 0 a) b=_
 rw[FW h]
theorem Ls{a b c:Nat}(h:a≤aH):Ai [a,b,c]=addN (addN a b) c:=by
 show addN (addN (addN 0 a) b) c=_
 rw[FW h]
theorem Qs(l:List Tr)(j:Nat)(h:j<l.length):bW 0 (l.take (j+1))=addN (bW 0 (l.take j)) (bG l[j]):=by
 have:∀ (l m:List Tr) (a:Nat),bW a (l++m)=bW (bW a l) m:=by
  intro l m
  induction l with
  | nil=>intro a;rw[List.nil_append,bW]
  | cons x l ih=>intro a;rw[List.cons_append,bW,bW,ih]
 rw[List.take_succ_eq_append_getElem h,this,bW,bW]
theorem qm(w:World)(l:List Nat)(h:l.length≤9):ak (w.alloc (.cells (l.map fun n:Nat=>Value.int .i64 n).toArray 3)) (.slice (some ⟨w.heap.size,0,none⟩) l.length l.length) 1 aS l:=by
 have e:(l.map fun n:Nat=>Value.int .i64 n)=l.flatMap aS:=by
  clear h
  induction l with
  | nil=>rfl
  | cons x l ih=>rw[List.flatMap_cons,List.map_cons,ih];rfl
 rw[e]
 exact qR dR w 3 l (by simp[maxLen];omega)
theorem XT(kids:List Vt)(a:Option Addr)(cap:Nat)(w:World)(sA:ak w (.slice a kids.length cap) 8 Vt.cells kids)(lA:∀ i (h:i<kids.length),Lies w kids[i])
  (ih:∀ i (h:i<kids.length) (u:World),Lies u kids[i]→Calls Tryz.prog 109 #[.agg kids[i].cells.toArray] u (aX u (.int .i64 (bG kids[i].tr:Nat)))) :
  Calls Tryz.prog 107 #[.func (.func 109) #[] #[],.slice a kids.length cap] w (aX w (.int .i64 (bW 0 (kids.map Vt.tr):Nat))):=by
 obtain⟨b,o,c1,c2,c3,c4,c5⟩:=sA.kids
 clear sA c4
 have HC:=ah c5;have HI:=ah ih;have LA:=ah lA
 clear c5 ih lA
 obtain⟨n,hn⟩:∃ n,kids.length=n:=⟨_,rfl⟩
 have HN:=ah hn
 have h3:∀ i,i<n→a=some ⟨b,o,none⟩:=by rw[←hn];exact c3
 have hnc:n≤cap:=by rw[←hn];exact c1
 rw[hn]
 clear c3 c1 hn
 go_enter Tryz.func107,Tryz.ntmps107
 go_wp2
 go_loopw [5,10] (fun v i wr=>∃ k:Nat,k≤n∧i=.int .i64 k∧v=.int .i64 (bW 0 ((kids.map Vt.tr).take k):Nat)∧Below w.heap.size w wr) (fun _ i _=>n - (intOf i).toNat)
 case atStart=>exact⟨0,Nat.zero_le _,rfl,rfl,Below.refl _ _⟩
 case round =>
  obtain⟨k,hk,rfl,rfl,hB⟩:=hrel
  by_cases hlt:k<n
  ·have hlk:k<kids.length:=by rw[HN.out];exact hlt
   obtain rfl:=h3 k hlt
   have e1:=HC.out k hlk wr hB
   have hw:=Qs (kids.map Vt.tr) k (by simpa using hlk)
   rw[List.getElem_map] at hw
   have hs1:bW 0 ((kids.map Vt.tr).take k)≤aH:=xZ _ _ (by simp[aH])
   have hx1:=zG kids[k].tr
   have hlies:=LA.out k hlk
   have hcall:=HI.out k hlk
   generalize kids[k]=V at *
   generalize bG V.tr=x at *
   generalize bW 0 ((kids.map Vt.tr).take k)=s at *
   obtain⟨k5,s5,a5,cp5,bZ,cu,hi5⟩:=V
   obtain⟨x0,x1,x2,x3,x4,x5,x6,x7⟩:=qW e1
   have hbl:=World.block_lt_of_cell? wr _ x0
   have hB1:=hB.trans ((aj wr (.cells (aF k5 s5 a5 bZ.length cp5 cu hi5).toArray 101)).mono hB.size)
   have hcl:=hcall _ (hlies.kept hB1)
   have hadd:=fun u=>xG u.heap.size 0 2 2 [s,x] (u.alloc (.cells #[.int .i64 (s:Nat),.int .i64 (x:Nat)] 3)) (qm u [s,x] (by simp)) (by intro y hy;simp at hy;rcases hy with rfl | rfl;exact hs1;exact hx1)
   obtain⟨s2,hs2⟩:∃ s2,bW 0 ((kids.map Vt.tr).take (k+1))=s2:=⟨_,rfl⟩
   rw[Aj hs1,←hw,hs2] at hadd
   have HS2:=ah hs2
   have rD:=ah hcl
   have HAD:=ah hadd
   clear e1 hw hlies hcall hcl hadd hs1 hx1 hs2
   have hki:(k:Int)<(n:Int):=by omega
   have hk0:(0:Int)≤(k:Int):=by omega
   unfold aH at HAD
   go_wp2_with (first | (go_at_call 109;go_must (refine rD.out.mono ?_;rintro e w2 ⟨rfl,hb2⟩;have hB2:=hB1.trans (hb2.mono hB1.size);have hB3:=hB2.trans ((aj w2 (.cells #[.int .i64 (s:Nat),.int .i64 (x:Nat)] 3)).mono hB2.size))) | (go_at_call 106;go_must (refine(HAD.out _).mono ?_;rintro e w4 ⟨rfl,hb4⟩)))
   exact⟨⟨k+1,hlt,by push_cast;rfl,by rw[HS2.out],hB3.trans (hb4.mono hB3.size)⟩,by simp[intOf];omega⟩
  ·obtain rfl:k=n:=by omega
   rw[List.take_of_length_le (by rw[List.length_map,HN.out];exact Nat.le_refl _)]
   go_wp2
   go_ret
   exact⟨rfl,hB⟩
end
section
open Go.RowKit
def kZ(xs:List Nat):List Value:=xs.map fun n:Nat=>Value.int .i64 n
def jI(w:World)(base E:Nat)(v:Value)(xs:List Nat):Prop :=
 ∃ (a:Option Addr) (cap:Nat),v=.slice a xs.length cap∧xs.length≤cap∧cap≤maxLen∧((a=none∧cap=0) ∨
  ∃ g cur,a=some ⟨g,0,none⟩∧base≤g∧Box w g cur E∧cap≤cur.size∧cur.toList.take xs.length=kZ xs)
section
variable {w:World} {base E:Nat} {v:Value} {xs:List Nat}
theorem jI.form(h:jI w base E v xs):∃ a cap,v=.slice a xs.length cap:=by obtain⟨a,cap,hv,_⟩:=h;exact⟨a,cap,hv⟩
theorem jI.nil(w:World)(base E:Nat):jI w base E (.slice none 0 0) []:=⟨none,0,rfl,Nat.le_refl _,by simp[maxLen],.inl ⟨rfl,rfl⟩⟩
theorem jI.same{w':World}(h:jI w base E v xs)(hb:∀ b,base≤b→b<w.heap.size→w'.heap[b]?=w.heap[b]?):jI w' base E v xs:=by
 obtain⟨a,cap,hv,hle,hm,hh⟩:=h
 refine⟨a,cap,hv,hle,hm,hh.imp id ?_⟩
 rintro⟨g,cur,ha,hbg,hg,hr⟩
 exact⟨g,cur,ha,hbg,(hb g hbg hg.lt).trans hg,hr⟩
theorem jI.kept{w':World}(h:jI w base E v xs)(hb:Below w.heap.size w w'):jI w' base E v xs:=h.same fun b _ hl=>hb.block b hl
theorem jI.other(h:jI w base E v xs)(a:Addr)(u:Value)(hne:a.block<base):jI (w.setCell a u) base E v xs:=h.same fun b hb _=>heap_setCell_other w a b u (by omega)
theorem jI.cell{a:Option Addr}{n cap:Nat}(h:jI w base E (.slice a n cap) xs):n=xs.length∧xs.length≤cap∧cap≤9223372036854775807∧∃ g,(∀ i,i<xs.length→a=some ⟨g,0,none⟩)∧∀ i (h:i<xs.length),w.cell? ⟨g,i,none⟩=some (.int .i64 (xs[i]:Nat)):=by
 obtain⟨a',cap',hv,hle,hm,hh⟩:=h
 obtain⟨rfl,rfl,rfl⟩:=Value.slice.inj hv
 refine⟨rfl,hle,hm,?_⟩
 rcases hh with⟨_,rfl⟩ | ⟨g,cur,ha,hb,hg,hs,hx⟩
 ·exact⟨0,fun i hi=>by omega,fun i hi=>by omega⟩
 ·refine⟨g,fun _ _=>ha,fun i hi=>?_⟩
  have:=congrArg (fun l=>l[i]?) hx
  simp only[List.getElem?_take,if_pos hi] at this
  rw[hg.cell,←Array.getElem?_toList,this]
  simp[kZ,hi]
theorem jI.cut{a:Option Addr}{n cap:Nat}{ys:List Nat}{x:Nat}(h:jI w base E (.slice a n cap) (ys++[x])):jI w base E (.slice a ys.length ys.length) ys:=by
 obtain⟨a',cap',hv,hle,hm,hh⟩:=h
 obtain⟨rfl,rfl,rfl⟩:=Value.slice.inj hv
 rw[List.length_append,List.length_singleton] at *
 refine⟨a,_,rfl,Nat.le_refl _,by omega,?_⟩
 rcases hh with⟨_,rfl⟩ | ⟨g,cur,ha,hb,hg,hs,hx⟩
 ·omega
 ·refine .inr ⟨g,cur,ha,hb,hg,by omega,?_⟩
  have:=congrArg (List.take ys.length) hx
  rw[List.take_take,Nat.min_eq_left (by omega)] at this
  rw[this,kZ,List.map_append,List.take_append_of_le_length (by simp),List.take_of_length_le (by simp)];rfl
theorem jI.row(h:jI w base E v xs)(g:Nat)(hg:v.ownBlock=some g):base≤g∧g<w.heap.size:=by
 obtain⟨a,cap,rfl,hle,hm,hh⟩:=h
 rcases hh with⟨rfl,_⟩ | ⟨g',cur,rfl,hb,hx,_⟩
 ·cases hg
 ·cases hg;exact⟨hb,hx.lt⟩
theorem jI.box{w':World}{b E':Nat}{c:Array Value}(h:jI w base E v xs)(hx:Box w b c E')(hg:w.grownBy w' v.ownBlock)(hb:b<base):Box w' b c E' :=
 (hg.block b hx.lt fun e=>by have:=(h.row b e.symm).1;omega).trans hx
theorem Vj{P:Program}(t ty:TypeId)(hE:fG P t E (.int .i64 0) 1 8)(h:jI w base E v xs)(hbase:base≤w.heap.size)(ad:Addr)(c y:Nat)(hy:w.cell? ad=some (.int .i64 y))(hn:xs.length+1≤1099511627776) :
  ∃ a' cap' w',(Builtin.append_ #[t,t] ty #[v,.slice (some ad) 1 c]).run P w=.ok (.slice a' (xs.length+1) cap') w'∧jI w' base E (.slice a' (xs.length+1) cap') (xs++[y])∧w.grownBy w' v.ownBlock:=by
 obtain⟨i,hi,hz,hsz,hby⟩:=hE.info
 obtain⟨a,cap,rfl,hle,hm,hh⟩:=h
 have hnews:∀ j u,[Value.int .i64 (y:Nat)][j]?=some u→w.cell? (ad.add j)=some u:=fun j u hu=>by
  cases j with
  | zero=>simp at hu;rw[←hu];simpa [Addr.add] using hy
  | succ j=>simp at hu
 have hm63:xs.length+1≤maxLen:=by simp only[maxLen];omega
 have hl:((xs++[y]).length)=xs.length+1:=by simp
 have grown:∀ (old:Nat) (row:Option Nat),
   jI (w.drew.alloc (.cells ((kZ xs).toArray++#[Value.int .i64 (y:Nat)]++Builtin.zeroCells #[Value.int .i64 0] (grownCap w (xs.length+1) old E - (xs.length+1))) E)) base E (.slice (some ⟨w.heap.size,0,none⟩) (xs.length+1) (grownCap w (xs.length+1) old E)) (xs++[y]) ∧
   w.grownBy (w.drew.alloc (.cells ((kZ xs).toArray++#[Value.int .i64 (y:Nat)]++Builtin.zeroCells #[Value.int .i64 0] (grownCap w (xs.length+1) old E - (xs.length+1))) E)) row:=by
  intro old row
  have hge:=grownCap_ge w (xs.length+1) old E
  have hcm:=grownCap_le_maxLen w (xs.length+1) old E hm63
  refine⟨⟨_,_,by rw[hl],by rw[hl];exact hge,hcm,.inr ⟨w.heap.size,_,rfl,hbase,heap_alloc_new w.drew _,?_,?_⟩⟩,⟨rfl,rfl,rfl,by simp,fun k hk _=>Below.heap_alloc w.drew _ k hk⟩⟩
  ·simp[kZ,Builtin.zeroCells];omega
  ·rw[hl]
   have hi:(kZ (xs++[y])).length=xs.length+1:=by simp[kZ]
   have e:∀ Z:List Value,List.take (xs.length+1) (kZ (xs++[y])++Z)=kZ (xs++[y]):=fun Z=>by rw[←hi,List.take_left]
   rw[←e (Builtin.zeroCells #[Value.int .i64 0] (grownCap w (xs.length+1) old E - (xs.length+1))).toList]
   simp[kZ]
 rcases hh with⟨rfl,rfl⟩ | ⟨g,cur,rfl,hb,hg,hs,hx⟩
 ·obtain rfl:xs=[]:=List.eq_nil_of_length_eq_zero (by omega)
  have hr:=run_append_nil (P:=P) w t ty E i (.int .i64 0) hE.slice hi hz ad 1 c [Value.int .i64 (y:Nat)] (by simp[hsz]) hnews (by omega) (by omega) (by rw[hby];omega)
  have hgr:=grown 0 (Value.ownBlock (.slice none 0 0))
  exact⟨_,_,_,hr,hgr.1,hgr.2⟩
 ·by_cases hroom:xs.length+1≤cap
  ·have hr:=run_append_room (P:=P) w t ty E i hE.slice hi g xs.length cap cur hg ad 1 c [Value.int .i64 (y:Nat)] (by simp[hsz]) hnews (by intro u hu;simp at hu;subst hu;rfl) hroom (by rw[hsz];simp;omega)
   refine⟨_,_,_,hr,⟨_,cap,by rw[hl],by rw[hl];exact hroom,hm,.inr ⟨g,_,rfl,hb,setRow_heap w g cur _ E _ hg,?_,?_⟩⟩,⟨rfl,rfl,rfl,by simp,fun k _ hk=>setRow_other w g k _ (fun e=>hk (by simp[Value.ownBlock,e]))⟩⟩
   ·simp;omega
   ·rw[hl,hsz,Nat.mul_one,hx]
    have hi:(kZ xs).length=xs.length:=by simp[kZ]
    simp only[List.append_assoc]
    rw[←List.append_assoc,show xs.length+1=((kZ xs)++[Value.int .i64 (y:Nat)]).length by rw[List.length_append,hi];rfl]
    show List.take _ (_++_)=_
    rw[List.take_left]
    simp[kZ]
  ·have holds:∀ j u,(kZ xs)[j]?=some u→w.cell? ((⟨g,0,none⟩:Addr).add j)=some u:=fun j u hu=>by
    have hj:j<xs.length:=by have:=(List.getElem?_eq_some_iff.1 hu).1;simpa [kZ] using this
    have:=congrArg (fun l=>l[j]?) hx
    simp only[List.getElem?_take,if_pos hj] at this
    rw[show(⟨g,0,none⟩:Addr).add j=⟨g,j,none⟩ by rw[Addr.add_lit,Nat.zero_add],hg.cell,←Array.getElem?_toList,this,hu]
   have hr:=run_append_grow (P:=P) w t ty E i (.int .i64 0) hE.slice hi hz ⟨g,0,none⟩ xs.length cap (kZ xs) (by simp[kZ,hsz]) holds ad 1 c [Value.int .i64 (y:Nat)] (by simp[hsz]) hnews (by omega) (by omega) (growslice_fits (by omega) (by rw[hby];omega))
   have hgr:=grown cap (Value.ownBlock (.slice (some ⟨g,0,none⟩) xs.length cap))
   exact⟨_,_,_,hr,hgr.1,hgr.2⟩
theorem Oj{P:Program}{ops:Array Oper}{rest:List Oper}{o:Oper}{a:Act}{Q:Exit→Act→World→Prop}(hgd:o.guard=none)(s x:Operand)(t:TypeId)
  (ho:o.op=.call { callee:=.builtin .append,args:=#[s,x],argTypes:=#[t,t] }) (hE:fG P t E (.int .i64 0) 1 8) (hs:a.eval s=v) (h:jI w base E v xs) (hbase:base≤w.heap.size) (ad:Addr) (c y:Nat) (hx:a.eval x=.slice (some ad) 1 c) (hy:w.cell? ad=some (.int .i64 y)) (hn:xs.length+1≤1099511627776)
  (K:∀ a' cap' w',jI w' base E (.slice a' (xs.length+1) cap') (xs++[y])→w.grownBy w' v.ownBlock→wpList P ops Q rest (a.put o.dst (.slice a' (xs.length+1) cap')) w'):wpList P ops Q (o::rest) a w:=by
 obtain⟨a',cap',w',hr,h1,h2⟩:=Vj (P:=P) t o.type hE h hbase ad c y hy hn
 refine wpList_plain hgd fun _ hK=>?_
 unfold Oper.wp execOp
 simp only[ho,resolve,invoke,builtin,Sem.run_bind,Sem.run_pure,Result.andThen_ok,List.map_toArray,List.map_cons,List.map_nil,hs,hx,hr]
 exact hK _ _ (K a' cap' w' h1 h2)
end
end
section
open Go.RowKit
def Only(b:Nat)(w w':World):Prop:=Below b w w'∧aU (·=b) w w'
theorem Only.refl(b:Nat)(w:World):Only b w w:=⟨Below.refl _ _,aU.refl _ _⟩
theorem Only.trans{b:Nat}{w w1 w2:World}(h:Only b w w1)(k:Only b w1 w2):Only b w w2:=⟨h.1.trans k.1,h.2.trans k.2⟩
theorem Only.below{b:Nat}{w w':World}(h:Below w.heap.size w w')(hb:b≤w.heap.size):Only b w w':=⟨h.mono hb,aU.below h⟩
theorem Only.box{b g E:Nat}{c:Array Value}{w w':World}(h:Only b w w')(hb:Box w g c E)(hg:g≠b):Box w' g c E:=h.2.box hg hb
theorem Only.slice{α:Type}{b:Nat}{g:Nat×Nat}{n cap size:Nat}{enc:α→List Value}{xs:List α}{w w':World}(h:Only b w w')(hs:ak w (.slice (some ⟨g.1,g.2,none⟩) n cap) size enc xs)(hg:g.1≠b):ak w' (.slice (some ⟨g.1,g.2,none⟩) n cap) size enc xs :=
 h.2.slice hs (fun _ ad e=>by cases e;exact hg)
theorem Only.set{b:Nat}(w:World)(i:Nat)(v:Value):Only b w (w.setCell ⟨b,i,none⟩ v):=⟨Below.setCell (Below.refl b w) (p:=⟨b,i,none⟩) (Nat.le_refl _) v,aU.set w _ v rfl⟩
def rdC(g:Nat×Nat)(n cap at' fr k p:Nat):Array Value:=#[.slice (some ⟨g.1,g.2,none⟩) n cap,.int .i64 at',.int .i64 fr,.int .i64 k,.int .i64 p]
structure fD(w:World)(b:Nat)(g:Nat×Nat)(n cap at' fr k p:Nat)(l:List UInt8):Prop where
 box:Box w b (rdC g n cap at' fr k p) 295
 sl:ak w (.slice (some ⟨g.1,g.2,none⟩) n cap) 1 bQ l
 ne:g.1≠b
theorem fD.kept{w w':World}{b:Nat}{g:Nat×Nat}{n cap at' fr k p:Nat}{l:List UInt8}(h:fD w b g n cap at' fr k p l)(hb:Below w.heap.size w w'):fD w' b g n cap at' fr k p l:=⟨h.box.kept hb,h.sl.kept hb,h.ne⟩
theorem fD.cells{w:World}{b:Nat}{g:Nat×Nat}{n cap at' fr k p:Nat}{l:List UInt8}(h:fD w b g n cap at' fr k p l) :
  w.cell? ⟨b,0,none⟩=some (.slice (some ⟨g.1,g.2,none⟩) n cap)∧w.cell? ⟨b,1,none⟩=some (.int .i64 at')∧w.cell? ⟨b,2,none⟩=some (.int .i64 fr)∧w.cell? ⟨b,3,none⟩=some (.int .i64 k)∧w.cell? ⟨b,4,none⟩=some (.int .i64 p) :=
 ⟨h.box.cell 0,h.box.cell 1,h.box.cell 2,h.box.cell 3,h.box.cell 4⟩
def bC(l:List UInt8)(i:Nat)(c:UInt8):Bool:=decide (i<l.length)&&(l.getD i 0==c)
theorem ZR(a c:UInt8):(a==c)=((a.toNat:Int)==(c.toNat:Int)):=by
 rw[Bool.eq_iff_iff];simp only[beq_iff_eq]
 exact⟨fun h=>by rw[h],fun h=>UInt8.toNat_inj.1 (Int.ofNat_inj.1 h)⟩
theorem Ep(b:Nat)(g:Nat×Nat)(n cap i fr k p:Nat)(l:List UInt8)(c:UInt8)(w:World)(h:fD w b g n cap i fr k p l) :
  Calls Tryz.prog 224 #[.pointer (some ⟨b,0,none⟩),.int .u8 c.toNat] w (aX w (.bool (bC l i c))):=by
 obtain⟨hlen,hcap,hcap',hcell⟩:=h.sl.cellsA
 have hnb:n≤9223372036854775807:=by omega
 unfold bC
 rw[←hlen]
 have hi0:decide (0≤(i:Int))=true:=by simp
 have HF:Hid (∀ v,Later w.drew v→fD v b g n cap i fr k p l):=ah fun v hl=>(h.kept (Below.refl _ _).drew).kept hl
 have HC:=ah hcell
 by_cases h1:i<n
 ·have e1:decide ((i:Int)<(n:Int))=true:=by simp;omega
  have hk:i<l.length:=by omega
  have hgd:l.getD i 0=l[i]:=by simp[List.getD_eq_getElem?_getD,hk]
  rw[hgd,ZR]
  have c0:=fun v hv=>HC.out i hk v hv
  generalize l[i]=x at *
  have ZT:Hid (∀ v,Later w.drew v→v.cell? ⟨g.1,g.2+i,none⟩=some (.int .u8 x.toNat)):=ah fun v hl=>c0 v ((Below.refl _ _).drew.trans (Below.mono hl (Nat.le_refl _)))
  have hq:(decide (i<n)&&((x.toNat:Int)==(c.toNat:Int)))=((x.toNat:Int)==(c.toNat:Int)):=by simp[h1]
  rw[hq]
  have hi2:(0:Int)≤(i:Int):=by omega
  have hi3:(i:Int)<(n:Int):=by omega
  clear c0 hgd hq hcell HC hlen hcap h
  have HB:Hid (∀ v,Later w.drew v→Below w.heap.size w v):=ah fun v hl=>(Below.refl _ _).drew.trans (Below.mono hl (Nat.le_refl _))
  go_enter Tryz.func224,Tryz.ntmps224
  go_wp2_with fail
  refine aA (R:=Later) 32 (by kernel_rfl) ?_
  refine pl [0,1,2,3,4,5,6,7,8,9,10,11,12,13,14,15,16,17,18,19,20,21,22,23,24,25,26,27,28,29,30,31] ?_
  repeat
   refine dB ?_ rfl (fun w1 hl=>?_) ?_
   rotate_left
   ·obtain⟨x0,x1,x2,x3,x4⟩:=(HF.out w1 hl).cells;have c0:=ZT.out w1 hl;go_simp;try with_reducible rfl
   simp only[eA,eB,eC,Act.put,eD,eE,eF]
  refine bP ?_
  refine aI (by kernel_rfl) (fun w1 hl=>?_) _
  go_wp2
  go_ret
  exact⟨rfl,(HB.out _ hl)⟩
 ·have e1:decide ((i:Int)<(n:Int))=false:=by simp;omega
  have hq:(decide (i<n)&&(l.getD i 0==c))=false:=by simp;omega
  rw[hq]
  clear hq hcell HC hlen hcap h
  have HB:Hid (∀ v,Later w.drew v→Below w.heap.size w v):=ah fun v hl=>(Below.refl _ _).drew.trans (Below.mono hl (Nat.le_refl _))
  go_enter Tryz.func224,Tryz.ntmps224
  go_wp2_with fail
  refine aA (R:=Later) 32 (by kernel_rfl) ?_
  refine pl [0,1,2,3,4,5,6,7,8,9,10,11,12,13,14,15,16,17] ?_
  repeat
   refine dB ?_ rfl (fun w1 hl=>?_) ?_
   rotate_left
   ·obtain⟨x0,x1,x2,x3,x4⟩:=(HF.out w1 hl).cells;go_simp;try with_reducible rfl
   simp only[eA,eB,eC,Act.put,eD,eE,eF]
  refine bP ?_
  refine dO 18 rfl ?_
  simp only[eA,eB,eC,Act.put,eD,eE,eF]
  refine dO 19 rfl ?_
  simp only[eA,eB,eC,Act.put,eD,eE,eF]
  refine dO 20 rfl ?_
  simp only[eA,eB,eC,Act.put,eD,eE,eF]
  refine dO 21 rfl ?_
  simp only[eA,eB,eC,Act.put,eD,eE,eF]
  refine dO 22 rfl ?_
  simp only[eA,eB,eC,Act.put,eD,eE,eF]
  refine dO 23 rfl ?_
  simp only[eA,eB,eC,Act.put,eD,eE,eF]
  refine dO 24 rfl ?_
  simp only[eA,eB,eC,Act.put,eD,eE,eF]
  refine dO 25 rfl ?_
  simp only[eA,eB,eC,Act.put,eD,eE,eF]
  refine dO 26 rfl ?_
  simp only[eA,eB,eC,Act.put,eD,eE,eF]
  refine dO 27 rfl ?_
  simp only[eA,eB,eC,Act.put,eD,eE,eF]
  refine dO 28 rfl ?_
  simp only[eA,eB,eC,Act.put,eD,eE,eF]
  refine dO 29 rfl ?_
  simp only[eA,eB,eC,Act.put,eD,eE,eF]
  refine pl [30,31] ?_
  repeat
   refine dB ?_ rfl (fun w1 hl=>?_) ?_
   rotate_left
   ·obtain⟨x0,x1,x2,x3,x4⟩:=(HF.out w1 hl).cells;go_simp;try with_reducible rfl
   simp only[eA,eB,eC,Act.put,eD,eE,eF]
  refine bP ?_
  refine aI (by kernel_rfl) (fun w1 hl=>?_) _
  go_wp2
  go_ret
  exact⟨rfl,(HB.out _ hl)⟩
end
section
open Go.RowKit
def qK(b:Nat)(g:Nat×Nat)(n cap:Nat)(fr:Nat)(l:List UInt8)(w:World)(v:Value)(i k p:Nat)(e:Ending)(w':World):Prop:=e=.returned v∧fD w' b g n cap i fr k p l∧Only b w w'
theorem fD.set{w:World}{b:Nat}{g:Nat×Nat}{n cap i fr k p:Nat}{l:List UInt8}(h:fD w b g n cap i fr k p l)(j:Nat):fD (w.setCell ⟨b,1,none⟩ (.int .i64 (j:Nat))) b g n cap j fr k p l :=
 ⟨h.box.set 1 _,(Only.set w 1 _).slice h.sl h.ne,h.ne⟩
theorem fD.fault{w:World}{b:Nat}{g:Nat×Nat}{n cap i fr k p:Nat}{l:List UInt8}(h:fD w b g n cap i fr k p l)(k' p':Nat):fD ((w.setCell ⟨b,3,none⟩ (.int .i64 (k':Nat))).setCell ⟨b,4,none⟩ (.int .i64 (p':Nat))) b g n cap i fr k' p' l :=
 ⟨(h.box.set 3 _).set 4 _,(Only.set _ 4 _).slice ((Only.set w 3 _).slice h.sl h.ne) h.ne,h.ne⟩
theorem fO(b:Nat)(g:Nat×Nat)(n cap i fr k p:Nat)(l:List UInt8)(w:World)(h:fD w b g n cap i fr k p l)(hi:i≤n) :
  Calls Tryz.prog 234 #[.pointer (some ⟨b,0,none⟩)] w (aX w (.int .i64 ((n - i:Nat):Int))):=by
 obtain⟨hlen,hcap,hcap',_⟩:=h.sl.cellsA
 have hnb:n≤9223372036854775807:=by omega
 have hw:IntKind.i64.wrap ((n:Int) - (i:Int))=((n - i:Nat):Int):=by rw[IntWalk.i64_in _ (by omega)];omega
 have HF:Hid (∀ v,Later w.drew v→fD v b g n cap i fr k p l):=ah fun v hl=>(h.kept (Below.refl _ _).drew).kept hl
 have HB:Hid (∀ v,Later w.drew v→Below w.heap.size w v):=ah fun v hl=>(Below.refl _ _).drew.trans (Below.mono hl (Nat.le_refl _))
 clear h hlen hcap
 go_enter Tryz.func234,Tryz.ntmps234
 go_wp2_with fail
 refine aA (R:=Later) 11 (by kernel_rfl) ?_
 refine pl [0,1,2,3,4,5,6,7,8,9,10] ?_
 repeat
  refine dB ?_ rfl (fun w1 hl=>?_) ?_
  rotate_left
  ·obtain⟨x0,x1,x2,x3,x4⟩:=(HF.out w1 hl).cells;go_simp;try with_reducible rfl
  simp only[eA,eB,eC,Act.put,eD,eE,eF]
 refine bP ?_
 refine aI (by kernel_rfl) (fun w1 hl=>?_) _
 go_wp2
 go_ret
 exact⟨rfl,HB.out _ hl⟩
theorem zH(b:Nat)(g:Nat×Nat)(n cap i fr k p:Nat)(l:List UInt8)(c:UInt8)(w:World)(h:fD w b g n cap i fr k p l) :
  Calls Tryz.prog 226 #[.pointer (some ⟨b,0,none⟩),.int .u8 c.toNat] w (qK b g n cap fr l w (.bool (bC l i c)) (if bC l i c then i+1 else i) k p):=by
 obtain⟨hlen,hcap,hcap',_⟩:=h.sl.cellsA
 have Lu:=fun w1 (hb:Below w.heap.size w w1)=>Ep b g n cap i fr k p l c w1 (h.kept hb)
 have HH:=ah Lu
 clear Lu
 cases hb:bC l i c with
 | false =>
  rw[hb] at HH
  clear hcap hlen
  have HR:=ah h
  clear h hb
  go_enter Tryz.func226,Tryz.ntmps226
  go_wp2_with (go_at_call 224;go_must (refine(HH.out _ (Below.refl _ _)).mono ?_;rintro e w3 ⟨rfl,hB3⟩))
  go_ret
  exact⟨rfl,HR.out.kept hB3,Only.below hB3 (Nat.le_of_lt HR.out.box.lt)⟩
 | true =>
  rw[hb] at HH
  have hin:i<l.length:=by unfold bC at hb;simp only[Bool.and_eq_true,decide_eq_true_eq] at hb;exact hb.1
  have hw:IntKind.i64.wrap ((i:Int)+1)=((i+1:Nat):Int):=by rw[IntWalk.i64_in _ (by omega)];omega
  clear hcap hlen hb
  have HR:=ah h
  clear h
  go_enter Tryz.func226,Tryz.ntmps226
  go_wp2_with (go_at_call 224;go_must (refine(HH.out _ (Below.refl _ _)).mono ?_;rintro e w3 ⟨rfl,hB3⟩;have gQ:=HR.out.kept hB3;obtain⟨x0,x1,x2,x3,x4⟩:=gQ.cells;have hf:=gQ.box.free 1))
  go_ret
  exact⟨rfl,gQ.set (i+1),(Only.below hB3 (Nat.le_of_lt HR.out.box.lt)).trans (Only.set _ _ _)⟩
theorem iJ(b:Nat)(g:Nat×Nat)(n cap i fr k p:Nat)(l:List UInt8)(kind pos:Nat)(w:World)(h:fD w b g n cap i fr k p l) :
  Calls Tryz.prog 235 #[.pointer (some ⟨b,0,none⟩),.int .i64 kind,.int .i64 pos] w (qK b g n cap fr l w (.tuple #[]) i (if k=0 then kind else k) (if k=0 then pos else p)):=by
 obtain⟨x0,x1,x2,x3,x4⟩:=h.cells
 have f3:=h.box.free 3
 have f4:=h.box.free 4
 by_cases hk:k=0
 ·subst hk
  rw[if_pos rfl,if_pos rfl]
  have HR:=ah h
  clear h
  go_enter Tryz.func235,Tryz.ntmps235
  go_wp2
  go_end0
  exact⟨rfl,HR.out.fault kind pos,(Only.set _ _ _).trans (Only.set _ _ _)⟩
 ·rw[if_neg hk,if_neg hk]
  have e1:((k:Int)==0)=false:=by simp;omega
  have e2:(k==0)=false:=by simp;omega
  have HR:=ah h
  clear h
  go_enter Tryz.func235,Tryz.ntmps235
  go_wp2
  go_end0
  exact⟨rfl,HR.out,Only.refl _ _⟩
end
end Go.Proofs.YtaoinbjjolikhaaGreatDoor
