/- The texts of N10, in few letters (mini.py). -/
import Derived.Test.YtengfapcaaacaaaGreatDoorM6
import Derived.Test.YtengfapcaaacaaaGreatDoorM9
set_option linter.unusedVariables false
set_option linter.unusedSimpArgs false
set_option maxRecDepth 20000
set_option maxHeartbeats 3200000
namespace Go.Proofs.YtengfapcaaacaaaGreatDoor
section
open Go.RowKit
def uw(S j:Nat):List UInt8:=(je j S).flatMap vk
theorem Zk(S j:Nat):(uw S j).length=8*j:=by
 unfold uw
 induction j with
 | zero=>rfl
 | succ j ih=>rw[xO,List.flatMap_append,List.length_append,ih];simp[vk];omega
def oC(w i:Nat):List UInt8:=(List.range i).map (nR w)
theorem Rj(w i:Nat):oC w (i+1)=oC w i++[nR w i]:=by unfold oC;rw[List.range_succ,List.map_append];rfl
theorem Xm(S j:Nat):uw S (j+1)=uw S j++oC (dU S j) 8:=by
 unfold uw;rw[xO,List.flatMap_append];simp[vk,oC]
theorem Zl(S k:Nat)(h:k=0∨∃ j,k=j+1∧dU S j≠0):vw S k=k:=by
 rcases h with rfl | ⟨j,rfl,h⟩
 ·rfl
 ·rw[vw,if_neg h]
theorem Zm(S j:Nat)(h:dU S j=0):vw S (j+1)=vw S j:=by rw[vw,if_pos h]
theorem Zn(z i:Nat):IntKind.u8.wrap ((z:Int) / 2 ^ (8*i))=((nR z i).toNat:Nat):=by
 have e:((z:Int) / 2 ^ (8*i))=((z / 2 ^ (8*i):Nat):Int):=by simp
 rw[e]
 unfold nR
 rw[UInt8.toNat_ofNat',Nat.shiftRight_eq_div_pow,IntKind.wrap_u8]
 omega
theorem Jt:dQ Tryz.prog 35 5 (.int .u8 0) 1 1:=⟨Tryz.underlying35,info_parts (by kernel_rfl),rfl,by decide⟩
theorem Rk(p g N S:Nat)(w:World)(hN:N≤1048576)(hB:fO w p g N S) :
  Calls Tryz.prog 241 #[.pointer (some ⟨p,0,none⟩)] w (aY w (sv (Je (cO N) S))):=by
 have x1:w.cell? ⟨p,1,none⟩=some (.slice (some ⟨g,0,none⟩) (cO N) (cO N)):=hB.box.cell 1
 have hwd:=hB.words
 have hgl:=hwd.lt
 have hpl:=hB.box.lt
 have hm:cO N≤16384:=by unfold cO;omega
 have hkey:Je (cO N) S=uw S (vw S (cO N)):=rfl
 rw[hkey]
 generalize cO N=m at *
 have hw:∀ j,j<m→w.cell? ⟨g,j,none⟩=some (.int .u64 (dU S j:Nat)):=fun j hj=>(hwd.cell _).trans (o8 _ _ _ hj)
 have HW:=ah hw
 clear hwd hB hkey hw
 obtain⟨ANS,hans⟩:∃ A,sv (uw S (vw S m))=A:=⟨_,rfl⟩
 rw[hans]
 have HA:=ah hans
 clear hans
 go_enter Tryz.func241,Tryz.ntmps241
 go_wp2
 go_loopw [3] (fun v wr=>∃ k:Nat,k≤m∧v=.int .i64 k∧vw S m=vw S k∧wr=w) (fun v _=>(intOf v).toNat)
 case atStart=>exact⟨m,Nat.le_refl _,rfl,rfl,rfl⟩
 case round =>
  obtain⟨k,hk,rfl,htop,hww⟩:=hrel
  subst wr
  have HT:=ah htop
  clear htop
  by_cases hgo:∃ j,k=j+1∧dU S j=0
  ·obtain⟨j,rfl,hz⟩:=hgo
   have c:=HW.out j (by omega)
   rw[hz] at c
   have e:((j+1:Nat):Int) - 1=(j:Int):=by omega
   have hst:=Zm S j hz
   have HS:=ah hst
   clear hst hz
   go_wp2
   exact⟨⟨j,by omega,rfl,by rw[HT.out,HS.out],trivial⟩,by simp[intOf]⟩
  ·have hstop:vw S k=k:=Zl S k (by
    cases k with
    | zero=>exact .inl rfl
    | succ j=>exact .inr ⟨j,rfl,fun h=>hgo ⟨j,rfl,h⟩⟩)
   rw[HT.out.trans hstop] at HA
   have hcase:(decide ((0:Int)<(k:Int))=false)∨(decide ((0:Int)<(k:Int))=true∧∃ z:Nat,w.cell? ⟨g,k - 1,none⟩=some (.int .u64 z)∧((z:Int)==0)=false):=by
    cases k with
    | zero=>exact .inl rfl
    | succ j =>
     refine .inr ⟨decide_eq_true (by omega),_,HW.out j (by omega),?_⟩
     have:dU S j≠0:=fun h=>hgo ⟨j,rfl,h⟩
     simp;omega
   clear hgo hstop HT
   have hk8:(8:Int)*(k:Int)=((8*k:Nat):Int):=by omega
   have hkt:((k:Int)).toNat=k:=by omega
   have hkm:(k:Int)≤(m:Int):=by omega
   have h0k:(0:Int)≤(k:Int):=by omega
   have HK8:=ah hk8
   clear hk8
   have hk1:0<k→(k:Int) - 1=((k - 1:Nat):Int):=by omega
   have hk2:0<k→((k - 1:Nat):Int)<(m:Int):=by omega
   rcases hcase with hc | ⟨hc,z,hz,hz0⟩
   ·have hkn:(k:Int)≤0:=by simp at hc;omega
    clear hk1 hk2
    go_wp2_with (first | (refine yP rfl 35 _ _ rfl Jt uM (8*k) rfl (congrArg (Value.int .i64) HK8.out) (by omega) (by simp[maxLen];omega) w.heap.size (Nat.le_refl _) ?_;intro w1 ho hg;have hB1:Below w.heap.size w w1:=(Below.refl _ _).grown hg (Nat.le_refl _) (fun k hk=>by cases hk);have y1:w1.cell? ⟨p,1,none⟩=some (.slice (some ⟨g,0,none⟩) m m):=(hB1.cell hpl).trans x1) | simp only[hk1])
    clear y1 hg hc
    go_loopw [4,40] (fun v i wq=>∃ (j:Nat) (a:Option Addr) (q cap:Nat),j≤k∧i=.int .i64 j∧v=.slice a q cap∧Own wq w.heap.size 5 1 bK (.slice a q cap) (uw S j)∧Below w.heap.size w wq) (fun _ i _=>k - (intOf i).toNat)
    case atStart=>exact⟨0,_,_,_,Nat.zero_le _,rfl,rfl,ho,hB1⟩
    case round =>
     clear ho hB1
     obtain⟨j,a,q,cap,hj,rfl,rfl,hown,hB⟩:=hrel
     obtain rfl:j=k:=by omega
     have hl:=hown.open.1
     have hconv:=FH (P:=Tryz.prog) (src:=35) (dst:=9) Tryz.underlying35 Tryz.underlying5 Tryz.underlying9 hl (hown.slice uM)
     rw[HA.out] at hconv
     clear hl
     go_wp2
     go_ret
     exact⟨rfl,hB⟩
   ·have hkp:0<k:=by simp at hc;omega
    replace hk1:=hk1 hkp
    replace hk2:=hk2 hkp
    go_wp2_with (first | (refine yP rfl 35 _ _ rfl Jt uM (8*k) rfl (congrArg (Value.int .i64) HK8.out) (by omega) (by simp[maxLen];omega) w.heap.size (Nat.le_refl _) ?_;intro w1 ho hg;have hB1:Below w.heap.size w w1:=(Below.refl _ _).grown hg (Nat.le_refl _) (fun k hk=>by cases hk);have y1:w1.cell? ⟨p,1,none⟩=some (.slice (some ⟨g,0,none⟩) m m):=(hB1.cell hpl).trans x1) | simp only[hk1])
    clear y1 hg hc
    go_loopw [4,40] (fun v i wq=>∃ (j:Nat) (a:Option Addr) (q cap:Nat),j≤k∧i=.int .i64 j∧v=.slice a q cap∧Own wq w.heap.size 5 1 bK (.slice a q cap) (uw S j)∧Below w.heap.size w wq) (fun _ i _=>k - (intOf i).toNat)
    case atStart=>exact⟨0,_,_,_,Nat.zero_le _,rfl,rfl,ho,hB1⟩
    case round =>
     clear ho hB1
     obtain⟨j,a,q,cap,hj,rfl,rfl,hown,hB⟩:=hrel
     by_cases hlt:j<k
     ·have c0:wr.cell? ⟨g,j,none⟩=some (.int .u64 (dU S j:Nat)):=(hB.cell hgl).trans (HW.out j (by omega))
      have hsu:=Xm S j
      have hl:=Zk S j
      have EL:=ah hsu;have HL:=ah hl
      clear hsu hl
      have hjk:(j:Int)<(k:Int):=by omega
      generalize dU S j=u at *
      go_wp2
      go_loopw [4,44] (fun v i wt=>∃ (t:Nat) (a:Option Addr) (q cap:Nat),t≤8∧i=.int .i64 t∧v=.slice a q cap∧Own wt w.heap.size 5 1 bK (.slice a q cap) (uw S j++oC u t)∧Below w.heap.size w wt) (fun _ i _=>8 - (intOf i).toNat)
      case atStart=>exact⟨0,a,q,cap,by omega,rfl,rfl,by rw[show oC u 0=[] from rfl,List.append_nil];exact hown,hB⟩
      case round =>
       clear hown hB c0
       obtain⟨t,a,q,cap,ht,rfl,rfl,hown,hB⟩:=hrel
       by_cases alJ:t<8
       ·have hbv:=Zn u t
        have hbs:=Rj u t
        have hbl:(oC u t).length=t:=by simp[oC]
        have h8n:((8:Int)*(t:Int)).toNat=8*t:=by omega
        have Rl:=ah hbs;have HBL:=ah hbl
        clear hbs hbl
        generalize nR u t=x at *
        obtain⟨ys,hys⟩:∃ ys,uw S j++oC u t=ys:=⟨_,rfl⟩
        have hyl:ys.length=8*j+t:=by rw[←hys,List.length_append,HL.out,HBL.out]
        have hye:uw S j++oC u (t+1)=ys++[x]:=by rw[Rl.out,←List.append_assoc,hys]
        rw[hys] at hown
        clear hys
        have hyb:ys.length≤131080:=by omega
        have hqy:=hown.open.1
        have hqb:q≤131080:=by omega
        clear hqy
        have HYL:=ah hyl;have HYE:=ah hye
        clear hyl hye
        go_wp2_with (at_builtin;go_must (refine fJ rfl _ _ 35 rfl Jt uM rfl (hown.alloc _) ⟨wr.heap.size,0,none⟩ 1 x rfl (dD wr [.int .u8 (x.toNat:Nat)] _) (by simp only[maxLen];omega) (by omega) (by have:=hB.size;simp only[World.size_alloc];omega) ?_;intro a2 cap2 W' hown' hg))
        have h7:=hB.alloc hB.size (.cells #[.int .u8 (x.toNat:Nat)] 5)
        exact⟨⟨t+1,a2,_,cap2,alJ,by push_cast;rfl,rfl,by rw[HYE.out];exact hown',below_grown h7 (hown.alloc _) hg (Nat.le_refl _) h7.size⟩,by simp[intOf];omega⟩
       ·obtain rfl:t=8:=by omega
        go_wp2
        exact⟨⟨j+1,a,q,cap,hlt,by push_cast;rfl,rfl,by rw[EL.out];exact hown,hB⟩,by simp[intOf];omega⟩
     ·obtain rfl:j=k:=by omega
      have hl:=hown.open.1
      have hconv:=FH (P:=Tryz.prog) (src:=35) (dst:=9) Tryz.underlying35 Tryz.underlying5 Tryz.underlying9 hl (hown.slice uM)
      rw[HA.out] at hconv
      clear hl
      go_wp2
      go_ret
      exact⟨rfl,hB⟩
end
section
open Go.RowKit
theorem sG{a b:Nat}(_:a≤aF):addN a b≤aF:=by unfold addN;split <;> omega
theorem Dp{a b:Nat}:mulN a b≤aF:=by
 unfold mulN
 split
 ·omega
 ·split
  ·omega
  ·rename_i h1 h2
   have hb:0<b:=by omega
   have h3:a*b≤aF / b*b:=Nat.mul_le_mul_right _ (by omega)
   exact Nat.le_trans h3 (Nat.div_mul_le_self _ _)
def zY(l:List Nat):Nat:=l.foldl addN 0
theorem afJ(l:List Nat):zY l≤aF:=by
 have:∀ (l:List Nat) (a:Nat),a≤aF→l.foldl addN a≤aF:=by
  intro l
  induction l with
  | nil=>intro a h;exact h
  | cons x l ih=>intro a h;exact ih _ (sG h)
 exact this l 0 (by unfold aF;omega)
theorem Zo(l:List Nat)(i:Nat)(h:i<l.length):zY (l.take (i+1))=addN (zY (l.take i)) l[i]:=by
 unfold zY;rw[List.take_succ_eq_append_getElem h,List.foldl_append];rfl
abbrev aO(n:Nat):List Value:=[.int .i64 n]
theorem acr(a b bb:Nat)(w:World)(ha:a≤aF)(hb:b≤aF)(hB:Box w bb #[.int .i64 (aF:Nat)] 3) :
  Calls Tryz.prog 191 #[.int .i64 a,.int .i64 b,.pointer (some ⟨bb,0,none⟩)] w (aY w (.int .i64 (addN a b:Nat))):=by
 have c0:w.cell? ⟨bb,0,none⟩=some (.int .i64 1099511627776):=hB.cell 0
 unfold aF at ha hb
 clear hB
 by_cases h:aF - a<b
 ·have e:addN a b=aF:=by unfold addN;rw[if_pos h]
  rw[e]
  unfold aF at h ⊢
  have h2:(1099511627776:Int) - (a:Int)<(b:Int):=by omega
  clear e h
  go_enter Tryz.func191,Tryz.ntmps191
  go_wp2
  go_ret
  exact⟨rfl,Below.refl _ _⟩
 ·have e:addN a b=a+b:=by unfold addN;rw[if_neg h]
  rw[e]
  unfold aF at h
  have h2:¬ (1099511627776:Int) - (a:Int)<(b:Int):=by omega
  clear e h
  go_enter Tryz.func191,Tryz.ntmps191
  go_wp2
  go_ret
  exact⟨by simp,Below.refl _ _⟩
theorem fold_add(b o cap n bb:Nat)(l:List Nat)(w:World)(h:ak w (.slice (some ⟨b,o,none⟩) n cap) 1 aO l)(hl:∀ x∈l,x≤aF)(hB:Box w bb #[.int .i64 (aF:Nat)] 3) :
  Calls Tryz.prog 190 #[.int .i64 0,.slice (some ⟨b,o,none⟩) n cap,.func (.func 191) #[] #[.pointer (some ⟨bb,0,none⟩)]] w (aY w (.int .i64 (zY l:Nat))):=by
 obtain⟨hn,hcap,hc63,hcell⟩:=ak.cellsA (f:=fun n:Nat=>Value.int .i64 n) h
 have HC:=ah hcell
 have HN:=ah hn
 have HL:=ah hl
 have hn63:n≤9223372036854775807:=by omega
 clear h hcell hn hcap hc63 hl
 go_enter Tryz.func190,Tryz.ntmps190
 go_wp2
 go_loopw [7,13] (fun v i wr=>∃ k:Nat,k≤n∧i=.int .i64 k∧v=.int .i64 (zY (l.take k):Nat)∧Below w.heap.size w wr) (fun _ i _=>n - (intOf i).toNat)
 case atStart=>exact⟨0,Nat.zero_le _,rfl,rfl,Below.refl _ _⟩
 case round =>
  obtain⟨k,hk,rfl,rfl,hBl⟩:=hrel
  by_cases hlt:k<n
  ·have hk2:k<l.length:=by rw[←HN.out];exact hlt
   have y0:=HC.out k hk2 wr hBl
   have hx:=HL.out _ (List.getElem_mem hk2)
   have hst:=acr (zY (l.take k)) l[k] bb wr (afJ _) hx (hB.kept hBl)
   rw[←Zo l k hk2] at hst
   generalize l[k]=x at *
   generalize zY (l.take k)=s at *
   have h0x:(0:Int)≤(x:Int):=by omega
   have hmx:max (x:Int) 0=(x:Int):=by omega
   have HS:=ah hst
   clear hst hx
   have hki:(k:Int)<(n:Int):=by omega
   have hk0:(0:Int)≤(k:Int):=by omega
   go_wp2_with (go_at_call 191;go_must (refine HS.out.mono ?_;rintro e w2 ⟨rfl,hb2⟩))
   exact⟨⟨k+1,hlt,by push_cast;rfl,rfl,hBl.trans (hb2.mono hBl.size)⟩,by simp[intOf];omega⟩
  ·obtain rfl:k=n:=by omega
   rw[List.take_of_length_le (by rw[HN.out];exact Nat.le_refl _)]
   clear hB
   go_wp2
   go_ret
   exact⟨rfl,hBl⟩
theorem xA(b o cap n:Nat)(l:List Nat)(w:World)(h:ak w (.slice (some ⟨b,o,none⟩) n cap) 1 aO l)(hl:∀ x∈l,x≤aF) :
  Calls Tryz.prog 141 #[.int .i64 (aF:Nat),.slice (some ⟨b,o,none⟩) n cap] w (aY w (.int .i64 (zY l:Nat))):=by
 have hmf:∀ (fn:Fn) (first cap:Array Value) (w:World),(Instr.makeFunc fn first cap).run Tryz.prog w=.ok (.func fn first cap) w:=fun _ _ _ _=>rfl
 have hB0:=aj w (.cells #[.int .i64 (aF:Nat)] 3)
 have hf:=fold_add b o cap n w.heap.size l _ (h.kept hB0) hl (Box.new w _ _)
 have HF:=ah hf
 unfold aF at HF hB0 ⊢
 clear hf h hl
 go_enter Tryz.func141,Tryz.ntmps141
 go_wp2_with (go_at_call 190;go_must (refine HF.out.mono ?_;rintro e w2 ⟨rfl,hb2⟩))
 go_ret
 exact⟨rfl,hB0.trans (hb2.mono hB0.size)⟩
end
section
open Go.RowKit
def stepM(s:Nat×Bool)(b:Nat):Nat×Bool:=if s.1=0∨b=0 then (0,s.2) else if s.2=true∨aF / b<s.1 then (s.1,true) else (s.1*b,s.2)
theorem acs{s:Nat×Bool}{b:Nat}(h:s.1≤aF):(stepM s b).1≤aF:=by
 unfold stepM
 split
 ·simp[aF]
 ·split
  ·exact h
  ·rename_i h1 h2
   have hb:0<b:=by omega
   have h3:s.1*b≤aF / b*b:=Nat.mul_le_mul_right _ (by have:¬ aF / b<s.1:=fun e=>h2 (.inr e);omega)
   exact Nat.le_trans h3 (Nat.div_mul_le_self _ _)
def foldM(l:List Nat):Nat×Bool:=l.foldl stepM (1,false)
theorem Rn(l:List Nat):(foldM l).1≤aF:=by
 have:∀ (l:List Nat) (s:Nat×Bool),s.1≤aF→(l.foldl stepM s).1≤aF:=by
  intro l
  induction l with
  | nil=>intro a h;exact h
  | cons x l ih=>intro a h;exact ih _ (acs h)
 exact this l (1,false) (by simp[aF])
theorem Xn(l:List Nat)(i:Nat)(h:i<l.length):foldM (l.take (i+1))=stepM (foldM (l.take i)) l[i]:=by
 unfold foldM;rw[List.take_succ_eq_append_getElem h,List.foldl_append];rfl
def mulR(s:Nat×Bool):Nat:=if s.1≠0∧s.2=true then aF else s.1
theorem mul_two(a b:Nat):mulR (foldM [a,b])=mulN a b:=by
 show mulR (stepM (stepM (1,false) a) b)=mulN a b
 by_cases ha:a=0
 ·subst ha;simp[stepM,mulR,mulN]
 by_cases hb:b=0
 ·subst hb
  have:(stepM (stepM (1,false) a) 0).1=0:=by unfold stepM;rw[if_pos (.inr rfl)]
  simp[this,mulR,mulN]
 have hm:mulN a b=if aF / b<a then aF else a*b:=by unfold mulN;rw[if_neg (by omega:¬ (a=0∨b=0))]
 rw[hm]
 by_cases h1:aF / a<1
 ·have e1:stepM (1,false) a=(1,true):=by unfold stepM;rw[if_neg (by simp;omega),if_pos (.inr h1)]
  have e2:stepM (1,true) b=(1,true):=by unfold stepM;rw[if_neg (by simp;omega),if_pos (.inl rfl)]
  rw[e1,e2]
  have h2:aF<a:=by
   rcases Nat.lt_or_ge aF a with h | h
   ·exact h
   ·have:=Nat.div_pos h (by omega:0<a);omega
  have h3:aF / b<a:=Nat.lt_of_le_of_lt (Nat.div_le_self _ _) h2
  rw[if_pos h3];simp[mulR]
 ·have e1:stepM (1,false) a=(a,false):=by unfold stepM;rw[if_neg (by simp;omega),if_neg (by rintro(h | h);cases h;exact h1 h)];simp
  rw[e1]
  by_cases h2:aF / b<a
  ·have e2:stepM (a,false) b=(a,true):=by unfold stepM;rw[if_neg (by simp;omega),if_pos (.inr h2)]
   rw[e2,if_pos h2];simp[ha,mulR]
  ·have e2:stepM (a,false) b=(a*b,false):=by unfold stepM;rw[if_neg (by simp;omega),if_neg (by rintro(h | h);cases h;exact h2 h)]
   rw[e2,if_neg h2];simp[mulR]
theorem acu(v b b1 b2:Nat)(y:Bool)(w:World)(_:v≤aF)(hb:b≤9223372036854775807)(hY:Box w b1 #[.bool y] 4)(hB:Box w b2 #[.int .i64 (aF:Nat)] 3) :
  Calls Tryz.prog 258 #[.int .i64 v,.int .i64 b,.pointer (some ⟨b1,0,none⟩),.pointer (some ⟨b2,0,none⟩)] w (fun e w'=>e=.returned (.int .i64 ((stepM (v,y) b).1:Nat))∧(w'=w∧(stepM (v,y) b).2=y∨w'=w.setCell ⟨b1,0,none⟩ (.bool true)∧(stepM (v,y) b).2=true)):=by
 have c0:w.cell? ⟨b2,0,none⟩=some (.int .i64 1099511627776):=hB.cell 0
 have c1:w.cell? ⟨b1,0,none⟩=some (.bool y):=hY.cell 0
 have f1:=hY.free 0
 clear hB hY
 by_cases h1:v=0
 ·have e:stepM (v,y) b=(0,y):=by unfold stepM;rw[if_pos (.inl h1)]
  rw[e]
  have e1:((v:Int)==0)=true:=by rw[h1];rfl
  clear e h1
  go_enter Tryz.func258,Tryz.ntmps258
  go_wp2
  go_ret
  exact⟨rfl,.inl ⟨rfl,by trivial⟩⟩
 have e1:((v:Int)==0)=false:=by rw[beq_eq_false_iff_ne];omega
 by_cases h2:b=0
 ·have e:stepM (v,y) b=(0,y):=by unfold stepM;rw[if_pos (.inr h2)]
  rw[e]
  have e2:((b:Int)==0)=true:=by rw[h2];rfl
  clear e h2 h1
  go_enter Tryz.func258,Tryz.ntmps258
  go_wp2
  go_ret
  exact⟨rfl,.inl ⟨rfl,by trivial⟩⟩
 have e2:((b:Int)==0)=false:=by rw[beq_eq_false_iff_ne];omega
 have hb0:¬ (b:Int)=0:=by omega
 cases y with
 | true =>
  have e:stepM (v,true) b=(v,true):=by unfold stepM;rw[if_neg (by simp;omega),if_pos (.inl rfl)]
  rw[e]
  clear e h2 h1
  go_enter Tryz.func258,Tryz.ntmps258
  go_wp2
  go_ret
  exact⟨rfl,.inr ⟨rfl,by trivial⟩⟩
 | false =>
  by_cases h3:aF / b<v
  ·have e:stepM (v,false) b=(v,true):=by unfold stepM;rw[if_neg (by simp;omega),if_pos (.inr h3)]
   rw[e]
   unfold aF at h3
   have h4:(1099511627776:Int) / (b:Int)<(v:Int):=by
    have:((1099511627776 / b:Nat):Int)=(1099511627776:Int) / (b:Int):=by simp
    omega
   clear e h2 h1 h3
   go_enter Tryz.func258,Tryz.ntmps258
   go_wp2
   go_ret
   exact⟨rfl,.inr ⟨rfl,by trivial⟩⟩
  ·have e:stepM (v,false) b=(v*b,false):=by unfold stepM;rw[if_neg (by simp;omega),if_neg (by rintro(h | h);cases h;exact h3 h)]
   rw[e]
   unfold aF at h3
   have h4:¬ (1099511627776:Int) / (b:Int)<(v:Int):=by
    have:((1099511627776 / b:Nat):Int)=(1099511627776:Int) / (b:Int):=by simp
    omega
   have h5:v*b≤1099511627776:=by
    have hb3:v*b≤1099511627776 / b*b:=Nat.mul_le_mul_right _ (by omega)
    exact Nat.le_trans hb3 (Nat.div_mul_le_self _ _)
   clear e h2 h1 h3
   go_enter Tryz.func258,Tryz.ntmps258
   go_wp2
   go_ret
   refine⟨by simp,?_⟩
   first | rfl | exact .inl ⟨rfl,by trivial⟩
theorem acv(b o cap n b1 b2:Nat)(l:List Nat)(w:World)(h:ak w (.slice (some ⟨b,o,none⟩) n cap) 1 aO l)(hl:∀ x∈l,x≤9223372036854775807)(hY:Box w b1 #[.bool false] 4)(hB:Box w b2 #[.int .i64 (aF:Nat)] 3)(hne:b2≠b1)(hbb:b≠b1) :
  Calls Tryz.prog 190 #[.int .i64 1,.slice (some ⟨b,o,none⟩) n cap,.func (.func 258) #[] #[.pointer (some ⟨b1,0,none⟩),.pointer (some ⟨b2,0,none⟩)]] w (fun e w'=>e=.returned (.int .i64 ((foldM l).1:Nat))∧Box w' b1 #[.bool (foldM l).2] 4∧Box w' b2 #[.int .i64 (aF:Nat)] 3∧∀ B,B≤b1→B≤w.heap.size→Below B w w'):=by
 obtain⟨hn,hcap,hc63,hcell⟩:=ak.cellsA (f:=fun n:Nat=>Value.int .i64 n) h
 have hcell2:∀ i (h:i<l.length) (w':World),w'.heap[b]?=w.heap[b]?→w'.cell? ⟨b,o+i,none⟩=some (.int .i64 (l[i]:Nat)):=fun i hi w' hw=>(World.cell?_of_block (a:=⟨b,o+i,none⟩) hw).trans (hcell i hi w (Below.refl _ _))
 have HC:=ah hcell2
 have HN:=ah hn
 have HL:=ah hl
 have hn63:n≤9223372036854775807:=by omega
 clear h hcell hcell2 hn hcap hc63 hl
 go_enter Tryz.func190,Tryz.ntmps190
 go_wp2
 go_loopw [7,13] (fun v i wr=>∃ k:Nat,k≤n∧i=.int .i64 k∧v=.int .i64 ((foldM (l.take k)).1:Nat)∧Box wr b1 #[.bool (foldM (l.take k)).2] 4∧Box wr b2 #[.int .i64 (aF:Nat)] 3∧wr.heap[b]?=w.heap[b]?∧∀ B,B≤b1→B≤w.heap.size→Below B w wr) (fun _ i _=>n - (intOf i).toNat)
 case atStart=>exact⟨0,Nat.zero_le _,rfl,rfl,hY,hB,rfl,fun B _ _=>Below.refl _ _⟩
 case round =>
  clear hY hB
  obtain⟨k,hk,rfl,rfl,hY,hB,hbk,hBl⟩:=hrel
  by_cases hlt:k<n
  ·have hk2:k<l.length:=by rw[←HN.out];exact hlt
   have y0:=HC.out k hk2 wr hbk
   have hx:=HL.out _ (List.getElem_mem hk2)
   have hst:=acu (foldM (l.take k)).1 l[k] b1 b2 (foldM (l.take k)).2 wr (Rn _) hx hY hB
   have hft:=Xn l k hk2
   have HFT:=ah hft
   clear hft
   generalize l[k]=x at *
   generalize foldM (l.take k)=s at *
   obtain⟨s1,s2⟩:=s
   have h0x:(0:Int)≤(x:Int):=by omega
   have hmx:max (x:Int) 0=(x:Int):=by omega
   have HS:=ah hst
   clear hst hx
   have hki:(k:Int)<(n:Int):=by omega
   have hk0:(0:Int)≤(k:Int):=by omega
   go_wp2_with (go_at_call 258;go_must (refine HS.out.mono ?_;rintro e w2 ⟨rfl,hw2⟩))
   refine⟨⟨k+1,hlt,by push_cast;rfl,by rw[HFT.out],?_,?_,?_,?_⟩,by simp[intOf];omega⟩
   ·rw[HFT.out]
    rcases hw2 with⟨rfl,h2⟩ | ⟨rfl,h2⟩
    ·rw[h2];exact hY
    ·rw[h2];exact hY.set 0 _
   ·rcases hw2 with⟨rfl,_⟩ | ⟨rfl,_⟩
    ·exact hB
    ·exact hB.other _ _ hne
   ·rcases hw2 with⟨rfl,_⟩ | ⟨rfl,_⟩
    ·exact hbk
    ·exact(heap_setCell_other wr ⟨b1,0,none⟩ b _ hbb).trans hbk
   ·intro B h1 h2
    rcases hw2 with⟨rfl,_⟩ | ⟨rfl,_⟩
    ·exact hBl B h1 h2
    ·exact(hBl B h1 h2).setCell (p:=⟨b1,0,none⟩) h1 _
  ·obtain rfl:k=n:=by omega
   rw[List.take_of_length_le (by rw[HN.out];exact Nat.le_refl _)] at hY ⊢
   go_wp2
   go_ret
   exact⟨rfl,hY,hB,hBl⟩
theorem VB(b o cap n:Nat)(l:List Nat)(w:World)(h:ak w (.slice (some ⟨b,o,none⟩) n cap) 1 aO l)(hl:∀ x∈l,x≤9223372036854775807)(hb:b<w.heap.size) :
  Calls Tryz.prog 236 #[.int .i64 (aF:Nat),.slice (some ⟨b,o,none⟩) n cap] w (aY w (.int .i64 (mulR (foldM l):Nat))):=by
 have hmf:∀ (fn:Fn) (first cap:Array Value) (w:World),(Instr.makeFunc fn first cap).run Tryz.prog w=.ok (.func fn first cap) w:=fun _ _ _ _=>rfl
 have hB0:Below w.heap.size w ((w.alloc (.cells #[.int .i64 (aF:Nat)] 3)).alloc (.cells #[.bool false] 4)):=((Below.refl _ w).alloc (Nat.le_refl _) _).alloc (by simp) _
 have hf:=acv b o cap n (w.heap.size+1) w.heap.size l _ (h.kept hB0) hl (Box.new' (by simp) _ _) ((Box.new w _ _).alloc _) (by omega) (by omega)
 have HF:=ah hf
 have hle:=Rn l
 unfold aF at HF hB0 hle
 have hv:mulR (foldM l)=if (foldM l).1≠0∧(foldM l).2=true then 1099511627776 else (foldM l).1:=rfl
 rw[hv]
 unfold aF
 generalize foldM l=s at *
 obtain⟨s1,s2⟩:=s
 dsimp only at hle
 clear hf h hl hv
 by_cases h1:s1=0
 ·subst h1
  rw[if_neg (by simp)]
  go_enter Tryz.func236,Tryz.ntmps236
  go_wp2_with (go_at_call 190;go_must (refine HF.out.mono ?_;rintro e w2 ⟨rfl,hY2,hT2,hb2⟩;have c0:w2.cell? ⟨w.heap.size,0,none⟩=some (.int .i64 1099511627776):=hT2.cell 0;have c1:w2.cell? ⟨w.heap.size+1,0,none⟩=some (.bool s2):=hY2.cell 0))
  go_ret
  exact⟨rfl,hB0.trans (hb2 _ (by omega) hB0.size)⟩
 ·have e1:((s1:Int) != 0)=true:=by rw[bne_iff_ne];omega
  have hmin:min (s1:Int) 1099511627776=(s1:Int):=by omega
  have hle2:(s1:Int)≤1099511627776:=by omega
  cases s2 with
  | true =>
   rw[if_pos ⟨h1,rfl⟩]
   clear h1
   go_enter Tryz.func236,Tryz.ntmps236
   go_wp2_with (go_at_call 190;go_must (refine HF.out.mono ?_;rintro e w2 ⟨rfl,hY2,hT2,hb2⟩;have c0:w2.cell? ⟨w.heap.size,0,none⟩=some (.int .i64 1099511627776):=hT2.cell 0;have c1:w2.cell? ⟨w.heap.size+1,0,none⟩=some (.bool true):=hY2.cell 0))
   go_ret
   exact⟨rfl,hB0.trans (hb2 _ (by omega) hB0.size)⟩
  | false =>
   rw[if_neg (by simp)]
   clear h1
   go_enter Tryz.func236,Tryz.ntmps236
   go_wp2_with (go_at_call 190;go_must (refine HF.out.mono ?_;rintro e w2 ⟨rfl,hY2,hT2,hb2⟩;have c0:w2.cell? ⟨w.heap.size,0,none⟩=some (.int .i64 1099511627776):=hT2.cell 0;have c1:w2.cell? ⟨w.heap.size+1,0,none⟩=some (.bool false):=hY2.cell 0))
   go_ret
   exact⟨rfl,hB0.trans (hb2 _ (by omega) hB0.size)⟩
end
section
open Go.RowKit
theorem dN:fB aO 1:=⟨fun _=>rfl,fun x u hu=>by simp[aO] at hu;subst hu;rfl⟩
theorem xQ:∀ (l:List Tr) (a:Nat),a≤aF→bV a l≤aF
 | [],a,h=>by rw[bV];exact h
 | x::l,a,h=>by rw[bV];exact xQ l _ (sG h)
theorem zx(x:Tr):bg x≤aF:=by
 obtain⟨k,s,kids,lo,hi⟩:=x
 rw[bg]
 have h0:=xQ kids 0 (by simp[aF])
 split
 ·exact h0
 ·split
  ·dsimp only
   split
   ·simp[aF]
   ·split
    ·exact sG (sG Dp)
    ·split
     ·exact sG (sG Dp)
     ·exact Dp
  ·exact sG h0
theorem FK{a:Nat}(h:a≤aF):addN 0 a=a:=by unfold addN;rw[if_neg (by omega)];omega
theorem zZ{a b:Nat}(h:a≤aF):zY [a,b]=addN a b:=by
 show addN (addN 0 a) b=_
 rw[FK h]
theorem KN{a b c:Nat}(h:a≤aF):zY [a,b,c]=addN (addN a b) c:=by
 show addN (addN (addN 0 a) b) c=_
 rw[FK h]
theorem PE(l:List Tr)(j:Nat)(h:j<l.length):bV 0 (l.take (j+1))=addN (bV 0 (l.take j)) (bg l[j]):=by
 have:∀ (l m:List Tr) (a:Nat),bV a (l++m)=bV (bV a l) m:=by
  intro l m
  induction l with
  | nil=>intro a;rw[List.nil_append,bV]
  | cons x l ih=>intro a;rw[List.cons_append,bV,bV,ih]
 rw[List.take_succ_eq_append_getElem h,this,bV,bV]
theorem pW(w:World)(l:List Nat)(h:l.length≤9):ak (w.alloc (.cells (l.map fun n:Nat=>Value.int .i64 n).toArray 3)) (.slice (some ⟨w.heap.size,0,none⟩) l.length l.length) 1 aO l:=by
 have e:(l.map fun n:Nat=>Value.int .i64 n)=l.flatMap aO:=by
  clear h
  induction l with
  | nil=>rfl
  | cons x l ih=>rw[List.flatMap_cons,List.map_cons,ih];rfl
 rw[e]
 exact qL dN w 3 l (by simp[maxLen];omega)
theorem Xo(kids:List Vt)(a:Option Addr)(cap:Nat)(w:World)(sA:ak w (.slice a kids.length cap) 8 Vt.cells kids)(lA:∀ i (h:i<kids.length),Lies w kids[i])
  (ih:∀ i (h:i<kids.length) (u:World),Lies u kids[i]→Calls Tryz.prog 144 #[.agg kids[i].cells.toArray] u (aY u (.int .i64 (bg kids[i].tr:Nat)))) :
  Calls Tryz.prog 142 #[.func (.func 144) #[] #[],.slice a kids.length cap] w (aY w (.int .i64 (bV 0 (kids.map Vt.tr):Nat))):=by
 obtain⟨b,o,c1,c2,c3,c4,c5⟩:=sA.kids
 clear sA c4
 have HC:=ah c5;have HI:=ah ih;have LA:=ah lA
 clear c5 ih lA
 obtain⟨n,hn⟩:∃ n,kids.length=n:=⟨_,rfl⟩
 have HN:=ah hn
 have h3:∀ i,i<n→a=some ⟨b,o,none⟩:=by rw[←hn];exact c3
 have hnc:n≤cap:=by rw[←hn];exact c1
 rw[hn]
 clear c3 c1 hn
 go_enter Tryz.func142,Tryz.ntmps142
 go_wp2
 go_loopw [5,10] (fun v i wr=>∃ k:Nat,k≤n∧i=.int .i64 k∧v=.int .i64 (bV 0 ((kids.map Vt.tr).take k):Nat)∧Below w.heap.size w wr) (fun _ i _=>n - (intOf i).toNat)
 case atStart=>exact⟨0,Nat.zero_le _,rfl,rfl,Below.refl _ _⟩
 case round =>
  obtain⟨k,hk,rfl,rfl,hB⟩:=hrel
  by_cases hlt:k<n
  ·have hlk:k<kids.length:=by rw[HN.out];exact hlt
   obtain rfl:=h3 k hlt
   have e1:=HC.out k hlk wr hB
   have hw:=PE (kids.map Vt.tr) k (by simpa using hlk)
   rw[List.getElem_map] at hw
   have hs1:bV 0 ((kids.map Vt.tr).take k)≤aF:=xQ _ _ (by simp[aF])
   have hx1:=zx kids[k].tr
   have hlies:=LA.out k hlk
   have hcall:=HI.out k hlk
   generalize kids[k]=V at *
   generalize bg V.tr=x at *
   generalize bV 0 ((kids.map Vt.tr).take k)=s at *
   obtain⟨k5,s5,a5,cp5,bY,bZ,hi5⟩:=V
   obtain⟨x0,x1,x2,x3,x4,x5,x6,x7⟩:=qP e1
   have hbl:=World.block_lt_of_cell? wr _ x0
   have hB1:=hB.trans ((aj wr (.cells (aC k5 s5 a5 bY.length cp5 bZ hi5).toArray 115)).mono hB.size)
   have hcl:=hcall _ (hlies.kept hB1)
   have hadd:=fun u=>xA u.heap.size 0 2 2 [s,x] (u.alloc (.cells #[.int .i64 (s:Nat),.int .i64 (x:Nat)] 3)) (pW u [s,x] (by simp)) (by intro y hy;simp at hy;rcases hy with rfl | rfl;exact hs1;exact hx1)
   obtain⟨s2,hs2⟩:∃ s2,bV 0 ((kids.map Vt.tr).take (k+1))=s2:=⟨_,rfl⟩
   rw[zZ hs1,←hw,hs2] at hadd
   have HS2:=ah hs2
   have qX:=ah hcl
   have HAD:=ah hadd
   clear e1 hw hlies hcall hcl hadd hs1 hx1 hs2
   have hki:(k:Int)<(n:Int):=by omega
   have hk0:(0:Int)≤(k:Int):=by omega
   unfold aF at HAD
   go_wp2_with (first | (go_at_call 144;go_must (refine qX.out.mono ?_;rintro e w2 ⟨rfl,hb2⟩;have hB2:=hB1.trans (hb2.mono hB1.size);have hB3:=hB2.trans ((aj w2 (.cells #[.int .i64 (s:Nat),.int .i64 (x:Nat)] 3)).mono hB2.size))) | (go_at_call 141;go_must (refine(HAD.out _).mono ?_;rintro e w4 ⟨rfl,hb4⟩)))
   exact⟨⟨k+1,hlt,by push_cast;rfl,by rw[HS2.out],hB3.trans (hb4.mono hB3.size)⟩,by simp[intOf];omega⟩
  ·obtain rfl:k=n:=by omega
   rw[List.take_of_length_le (by rw[List.length_map,HN.out];exact Nat.le_refl _)]
   go_wp2
   go_ret
   exact⟨rfl,hB⟩
end
section
open Go.RowKit
def kW(xs:List Nat):List Value:=xs.map fun n:Nat=>Value.int .i64 n
def jB(w:World)(qB E:Nat)(v:Value)(xs:List Nat):Prop :=
 ∃ (a:Option Addr) (cap:Nat),v=.slice a xs.length cap∧xs.length≤cap∧cap≤maxLen∧((a=none∧cap=0) ∨
  ∃ g cur,a=some ⟨g,0,none⟩∧qB≤g∧Box w g cur E∧cap≤cur.size∧cur.toList.take xs.length=kW xs)
section
variable {w:World} {qB E:Nat} {v:Value} {xs:List Nat}
theorem jB.form(h:jB w qB E v xs):∃ a cap,v=.slice a xs.length cap:=by obtain⟨a,cap,hv,_⟩:=h;exact⟨a,cap,hv⟩
theorem jB.nil(w:World)(qB E:Nat):jB w qB E (.slice none 0 0) []:=⟨none,0,rfl,Nat.le_refl _,by simp[maxLen],.inl ⟨rfl,rfl⟩⟩
theorem jB.same{w':World}(h:jB w qB E v xs)(hb:∀ b,qB≤b→b<w.heap.size→w'.heap[b]?=w.heap[b]?):jB w' qB E v xs:=by
 obtain⟨a,cap,hv,hle,hm,hh⟩:=h
 refine⟨a,cap,hv,hle,hm,hh.imp id ?_⟩
 rintro⟨g,cur,ha,hbg,hg,hr⟩
 exact⟨g,cur,ha,hbg,(hb g hbg hg.lt).trans hg,hr⟩
theorem jB.kept{w':World}(h:jB w qB E v xs)(hb:Below w.heap.size w w'):jB w' qB E v xs:=h.same fun b _ hl=>hb.block b hl
theorem jB.other(h:jB w qB E v xs)(a:Addr)(u:Value)(hne:a.block<qB):jB (w.setCell a u) qB E v xs:=h.same fun b hb _=>heap_setCell_other w a b u (by omega)
theorem jB.cell{a:Option Addr}{n cap:Nat}(h:jB w qB E (.slice a n cap) xs):n=xs.length∧xs.length≤cap∧cap≤9223372036854775807∧∃ g,(∀ i,i<xs.length→a=some ⟨g,0,none⟩)∧∀ i (h:i<xs.length),w.cell? ⟨g,i,none⟩=some (.int .i64 (xs[i]:Nat)):=by
 obtain⟨a',cap',hv,hle,hm,hh⟩:=h
 obtain⟨rfl,rfl,rfl⟩:=Value.slice.inj hv
 refine⟨rfl,hle,hm,?_⟩
 rcases hh with⟨_,rfl⟩ | ⟨g,cur,ha,hb,hg,hs,hx⟩
 ·exact⟨0,fun i hi=>by omega,fun i hi=>by omega⟩
 ·refine⟨g,fun _ _=>ha,fun i hi=>?_⟩
  have:=congrArg (fun l=>l[i]?) hx
  simp only[List.getElem?_take,if_pos hi] at this
  rw[hg.cell,←Array.getElem?_toList,this]
  simp[kW,hi]
theorem jB.cut{a:Option Addr}{n cap:Nat}{ys:List Nat}{x:Nat}(h:jB w qB E (.slice a n cap) (ys++[x])):jB w qB E (.slice a ys.length ys.length) ys:=by
 obtain⟨a',cap',hv,hle,hm,hh⟩:=h
 obtain⟨rfl,rfl,rfl⟩:=Value.slice.inj hv
 rw[List.length_append,List.length_singleton] at *
 refine⟨a,_,rfl,Nat.le_refl _,by omega,?_⟩
 rcases hh with⟨_,rfl⟩ | ⟨g,cur,ha,hb,hg,hs,hx⟩
 ·omega
 ·refine .inr ⟨g,cur,ha,hb,hg,by omega,?_⟩
  have:=congrArg (List.take ys.length) hx
  rw[List.take_take,Nat.min_eq_left (by omega)] at this
  rw[this,kW,List.map_append,List.take_append_of_le_length (by simp),List.take_of_length_le (by simp)];rfl
theorem jB.row(h:jB w qB E v xs)(g:Nat)(hg:v.ownBlock=some g):qB≤g∧g<w.heap.size:=by
 obtain⟨a,cap,rfl,hle,hm,hh⟩:=h
 rcases hh with⟨rfl,_⟩ | ⟨g',cur,rfl,hb,hx,_⟩
 ·cases hg
 ·cases hg;exact⟨hb,hx.lt⟩
theorem jB.box{w':World}{b E':Nat}{c:Array Value}(h:jB w qB E v xs)(hx:Box w b c E')(hg:w.grownBy w' v.ownBlock)(hb:b<qB):Box w' b c E' :=
 (hg.block b hx.lt fun e=>by have:=(h.row b e.symm).1;omega).trans hx
theorem UL{P:Program}(t ty:TypeId)(hE:dQ P t E (.int .i64 0) 1 8)(h:jB w qB E v xs)(hbase:qB≤w.heap.size)(ad:Addr)(c y:Nat)(hy:w.cell? ad=some (.int .i64 y))(hn:xs.length+1≤1099511627776) :
  ∃ a' cap' w',(Builtin.append_ #[t,t] ty #[v,.slice (some ad) 1 c]).run P w=.ok (.slice a' (xs.length+1) cap') w'∧jB w' qB E (.slice a' (xs.length+1) cap') (xs++[y])∧w.grownBy w' v.ownBlock:=by
 obtain⟨i,hi,hz,hsz,hby⟩:=hE.info
 obtain⟨a,cap,rfl,hle,hm,hh⟩:=h
 have hnews:∀ j u,[Value.int .i64 (y:Nat)][j]?=some u→w.cell? (ad.add j)=some u:=fun j u hu=>by
  cases j with
  | zero=>simp at hu;rw[←hu];simpa [Addr.add] using hy
  | succ j=>simp at hu
 have hm63:xs.length+1≤maxLen:=by simp only[maxLen];omega
 have hl:((xs++[y]).length)=xs.length+1:=by simp
 have grown:∀ (old:Nat) (row:Option Nat),
   jB (w.drew.alloc (.cells ((kW xs).toArray++#[Value.int .i64 (y:Nat)]++Builtin.zeroCells #[Value.int .i64 0] (grownCap w (xs.length+1) old E - (xs.length+1))) E)) qB E (.slice (some ⟨w.heap.size,0,none⟩) (xs.length+1) (grownCap w (xs.length+1) old E)) (xs++[y]) ∧
   w.grownBy (w.drew.alloc (.cells ((kW xs).toArray++#[Value.int .i64 (y:Nat)]++Builtin.zeroCells #[Value.int .i64 0] (grownCap w (xs.length+1) old E - (xs.length+1))) E)) row:=by
  intro old row
  have hge:=grownCap_ge w (xs.length+1) old E
  have hcm:=grownCap_le_maxLen w (xs.length+1) old E hm63
  refine⟨⟨_,_,by rw[hl],by rw[hl];exact hge,hcm,.inr ⟨w.heap.size,_,rfl,hbase,heap_alloc_new w.drew _,?_,?_⟩⟩,⟨rfl,rfl,rfl,by simp,fun k hk _=>Below.heap_alloc w.drew _ k hk⟩⟩
  ·simp[kW,Builtin.zeroCells];omega
  ·rw[hl]
   have hi:(kW (xs++[y])).length=xs.length+1:=by simp[kW]
   have e:∀ Z:List Value,List.take (xs.length+1) (kW (xs++[y])++Z)=kW (xs++[y]):=fun Z=>by rw[←hi,List.take_left]
   rw[←e (Builtin.zeroCells #[Value.int .i64 0] (grownCap w (xs.length+1) old E - (xs.length+1))).toList]
   simp[kW]
 rcases hh with⟨rfl,rfl⟩ | ⟨g,cur,rfl,hb,hg,hs,hx⟩
 ·obtain rfl:xs=[]:=List.eq_nil_of_length_eq_zero (by omega)
  have hr:=run_append_nil (P:=P) w t ty E i (.int .i64 0) hE.slice hi hz ad 1 c [Value.int .i64 (y:Nat)] (by simp[hsz]) hnews (by omega) (by omega) (by rw[hby];omega)
  have hgr:=grown 0 (Value.ownBlock (.slice none 0 0))
  exact⟨_,_,_,hr,hgr.1,hgr.2⟩
 ·by_cases hroom:xs.length+1≤cap
  ·have hr:=run_append_room (P:=P) w t ty E i hE.slice hi g xs.length cap cur hg ad 1 c [Value.int .i64 (y:Nat)] (by simp[hsz]) hnews (by intro u hu;simp at hu;subst hu;rfl) hroom (by rw[hsz];simp;omega)
   refine⟨_,_,_,hr,⟨_,cap,by rw[hl],by rw[hl];exact hroom,hm,.inr ⟨g,_,rfl,hb,setRow_heap w g cur _ E _ hg,?_,?_⟩⟩,⟨rfl,rfl,rfl,by simp,fun k _ hk=>setRow_other w g k _ (fun e=>hk (by simp[Value.ownBlock,e]))⟩⟩
   ·simp;omega
   ·rw[hl,hsz,Nat.mul_one,hx]
    have hi:(kW xs).length=xs.length:=by simp[kW]
    simp only[List.append_assoc]
    rw[←List.append_assoc,show xs.length+1=((kW xs)++[Value.int .i64 (y:Nat)]).length by rw[List.length_append,hi];rfl]
    show List.take _ (_++_)=_
    rw[List.take_left]
    simp[kW]
  ·have holds:∀ j u,(kW xs)[j]?=some u→w.cell? ((⟨g,0,none⟩:Addr).add j)=some u:=fun j u hu=>by
    have hj:j<xs.length:=by have:=(List.getElem?_eq_some_iff.1 hu).1;simpa [kW] using this
    have:=congrArg (fun l=>l[j]?) hx
    simp only[List.getElem?_take,if_pos hj] at this
    rw[show(⟨g,0,none⟩:Addr).add j=⟨g,j,none⟩ by rw[Addr.add_lit,Nat.zero_add],hg.cell,←Array.getElem?_toList,this,hu]
   have hr:=run_append_grow (P:=P) w t ty E i (.int .i64 0) hE.slice hi hz ⟨g,0,none⟩ xs.length cap (kW xs) (by simp[kW,hsz]) holds ad 1 c [Value.int .i64 (y:Nat)] (by simp[hsz]) hnews (by omega) (by omega) (growslice_fits (by omega) (by rw[hby];omega))
   have hgr:=grown cap (Value.ownBlock (.slice (some ⟨g,0,none⟩) xs.length cap))
   exact⟨_,_,_,hr,hgr.1,hgr.2⟩
theorem NC{P:Program}{ops:Array Oper}{rest:List Oper}{o:Oper}{a:Act}{Q:Exit→Act→World→Prop}(hgd:o.guard=none)(s x:Operand)(t:TypeId)
  (ho:o.op=.call { callee:=.builtin .append,args:=#[s,x],argTypes:=#[t,t] }) (hE:dQ P t E (.int .i64 0) 1 8) (hs:a.eval s=v) (h:jB w qB E v xs) (hbase:qB≤w.heap.size) (ad:Addr) (c y:Nat) (hx:a.eval x=.slice (some ad) 1 c) (hy:w.cell? ad=some (.int .i64 y)) (hn:xs.length+1≤1099511627776)
  (K:∀ a' cap' w',jB w' qB E (.slice a' (xs.length+1) cap') (xs++[y])→w.grownBy w' v.ownBlock→wpList P ops Q rest (a.put o.dst (.slice a' (xs.length+1) cap')) w'):wpList P ops Q (o::rest) a w:=by
 obtain⟨a',cap',w',hr,h1,h2⟩:=UL (P:=P) t o.type hE h hbase ad c y hy hn
 refine wpList_plain hgd fun _ hK=>?_
 unfold Oper.wp execOp
 simp only[ho,resolve,invoke,builtin,Sem.run_bind,Sem.run_pure,Result.andThen_ok,List.map_toArray,List.map_cons,List.map_nil,hs,hx,hr]
 exact hK _ _ (K a' cap' w' h1 h2)
end
end
section
open Go.RowKit
def Only(b:Nat)(w w':World):Prop:=Below b w w'∧aQ (·=b) w w'
theorem Only.refl(b:Nat)(w:World):Only b w w:=⟨Below.refl _ _,aQ.refl _ _⟩
theorem Only.trans{b:Nat}{w w1 w2:World}(h:Only b w w1)(k:Only b w1 w2):Only b w w2:=⟨h.1.trans k.1,h.2.trans k.2⟩
theorem Only.below{b:Nat}{w w':World}(h:Below w.heap.size w w')(hb:b≤w.heap.size):Only b w w':=⟨h.mono hb,aQ.below h⟩
theorem Only.box{b g E:Nat}{c:Array Value}{w w':World}(h:Only b w w')(hb:Box w g c E)(hg:g≠b):Box w' g c E:=h.2.box hg hb
theorem Only.slice{α:Type}{b:Nat}{g:Nat×Nat}{n cap size:Nat}{enc:α→List Value}{xs:List α}{w w':World}(h:Only b w w')(hs:ak w (.slice (some ⟨g.1,g.2,none⟩) n cap) size enc xs)(hg:g.1≠b):ak w' (.slice (some ⟨g.1,g.2,none⟩) n cap) size enc xs :=
 h.2.slice hs (fun _ ad e=>by cases e;exact hg)
theorem Only.set{b:Nat}(w:World)(i:Nat)(v:Value):Only b w (w.setCell ⟨b,i,none⟩ v):=⟨Below.setCell (Below.refl b w) (p:=⟨b,i,none⟩) (Nat.le_refl _) v,aQ.set w _ v rfl⟩
def rdC(g:Nat×Nat)(n cap at' fr k p:Nat):Array Value:=#[.slice (some ⟨g.1,g.2,none⟩) n cap,.int .i64 at',.int .i64 fr,.int .i64 k,.int .i64 p]
structure eY(w:World)(b:Nat)(g:Nat×Nat)(n cap at' fr k p:Nat)(l:List UInt8):Prop where
 box:Box w b (rdC g n cap at' fr k p) 354
 sl:ak w (.slice (some ⟨g.1,g.2,none⟩) n cap) 1 bK l
 ne:g.1≠b
theorem eY.kept{w w':World}{b:Nat}{g:Nat×Nat}{n cap at' fr k p:Nat}{l:List UInt8}(h:eY w b g n cap at' fr k p l)(hb:Below w.heap.size w w'):eY w' b g n cap at' fr k p l:=⟨h.box.kept hb,h.sl.kept hb,h.ne⟩
theorem eY.cells{w:World}{b:Nat}{g:Nat×Nat}{n cap at' fr k p:Nat}{l:List UInt8}(h:eY w b g n cap at' fr k p l) :
  w.cell? ⟨b,0,none⟩=some (.slice (some ⟨g.1,g.2,none⟩) n cap)∧w.cell? ⟨b,1,none⟩=some (.int .i64 at')∧w.cell? ⟨b,2,none⟩=some (.int .i64 fr)∧w.cell? ⟨b,3,none⟩=some (.int .i64 k)∧w.cell? ⟨b,4,none⟩=some (.int .i64 p) :=
 ⟨h.box.cell 0,h.box.cell 1,h.box.cell 2,h.box.cell 3,h.box.cell 4⟩
def aX(l:List UInt8)(i:Nat)(c:UInt8):Bool:=decide (i<l.length)&&(l.getD i 0==c)
theorem Zp(a c:UInt8):(a==c)=((a.toNat:Int)==(c.toNat:Int)):=by
 rw[Bool.eq_iff_iff];simp only[beq_iff_eq]
 exact⟨fun h=>by rw[h],fun h=>UInt8.toNat_inj.1 (Int.ofNat_inj.1 h)⟩
theorem Eb(b:Nat)(g:Nat×Nat)(n cap i fr k p:Nat)(l:List UInt8)(c:UInt8)(w:World)(h:eY w b g n cap i fr k p l) :
  Calls Tryz.prog 274 #[.pointer (some ⟨b,0,none⟩),.int .u8 c.toNat] w (aY w (.bool (aX l i c))):=by
 obtain⟨hlen,hcap,hcap',hcell⟩:=h.sl.cellsA
 have hnb:n≤9223372036854775807:=by omega
 unfold aX
 rw[←hlen]
 have hi0:decide (0≤(i:Int))=true:=by simp
 have HF:Hid (∀ v,Later w.drew v→eY v b g n cap i fr k p l):=ah fun v hl=>(h.kept (Below.refl _ _).drew).kept hl
 have HC:=ah hcell
 by_cases h1:i<n
 ·have e1:decide ((i:Int)<(n:Int))=true:=by simp;omega
  have hk:i<l.length:=by omega
  have hgd:l.getD i 0=l[i]:=by simp[List.getD_eq_getElem?_getD,hk]
  rw[hgd,Zp]
  have c0:=fun v hv=>HC.out i hk v hv
  generalize l[i]=x at *
  have Zq:Hid (∀ v,Later w.drew v→v.cell? ⟨g.1,g.2+i,none⟩=some (.int .u8 x.toNat)):=ah fun v hl=>c0 v ((Below.refl _ _).drew.trans (Below.mono hl (Nat.le_refl _)))
  have hq:(decide (i<n)&&((x.toNat:Int)==(c.toNat:Int)))=((x.toNat:Int)==(c.toNat:Int)):=by simp[h1]
  rw[hq]
  have hi2:(0:Int)≤(i:Int):=by omega
  have hi3:(i:Int)<(n:Int):=by omega
  clear c0 hgd hq hcell HC hlen hcap h
  have HB:Hid (∀ v,Later w.drew v→Below w.heap.size w v):=ah fun v hl=>(Below.refl _ _).drew.trans (Below.mono hl (Nat.le_refl _))
  go_enter Tryz.func274,Tryz.ntmps274
  go_wp2_with fail
  refine aA (R:=Later) 32 (by kernel_rfl) ?_
  refine pl [0,1,2,3,4,5,6,7,8,9,10,11,12,13,14,15,16,17,18,19,20,21,22,23,24,25,26,27,28,29,30,31] ?_
  repeat
   refine dI ?_ rfl (fun w1 hl=>?_) ?_
   rotate_left
   ·obtain⟨x0,x1,x2,x3,x4⟩:=(HF.out w1 hl).cells;have c0:=Zq.out w1 hl;go_simp;try with_reducible rfl
   simp only[eA,eB,eC,Act.put,eD,eE,eF]
  refine bU ?_
  refine aH (by kernel_rfl) (fun w1 hl=>?_) _
  go_wp2
  go_ret
  exact⟨rfl,(HB.out _ hl)⟩
 ·have e1:decide ((i:Int)<(n:Int))=false:=by simp;omega
  have hq:(decide (i<n)&&(l.getD i 0==c))=false:=by simp;omega
  rw[hq]
  clear hq hcell HC hlen hcap h
  have HB:Hid (∀ v,Later w.drew v→Below w.heap.size w v):=ah fun v hl=>(Below.refl _ _).drew.trans (Below.mono hl (Nat.le_refl _))
  go_enter Tryz.func274,Tryz.ntmps274
  go_wp2_with fail
  refine aA (R:=Later) 32 (by kernel_rfl) ?_
  refine pl [0,1,2,3,4,5,6,7,8,9,10,11,12,13,14,15,16,17] ?_
  repeat
   refine dI ?_ rfl (fun w1 hl=>?_) ?_
   rotate_left
   ·obtain⟨x0,x1,x2,x3,x4⟩:=(HF.out w1 hl).cells;go_simp;try with_reducible rfl
   simp only[eA,eB,eC,Act.put,eD,eE,eF]
  refine bU ?_
  refine dK 18 rfl ?_
  simp only[eA,eB,eC,Act.put,eD,eE,eF]
  refine dK 19 rfl ?_
  simp only[eA,eB,eC,Act.put,eD,eE,eF]
  refine dK 20 rfl ?_
  simp only[eA,eB,eC,Act.put,eD,eE,eF]
  refine dK 21 rfl ?_
  simp only[eA,eB,eC,Act.put,eD,eE,eF]
  refine dK 22 rfl ?_
  simp only[eA,eB,eC,Act.put,eD,eE,eF]
  refine dK 23 rfl ?_
  simp only[eA,eB,eC,Act.put,eD,eE,eF]
  refine dK 24 rfl ?_
  simp only[eA,eB,eC,Act.put,eD,eE,eF]
  refine dK 25 rfl ?_
  simp only[eA,eB,eC,Act.put,eD,eE,eF]
  refine dK 26 rfl ?_
  simp only[eA,eB,eC,Act.put,eD,eE,eF]
  refine dK 27 rfl ?_
  simp only[eA,eB,eC,Act.put,eD,eE,eF]
  refine dK 28 rfl ?_
  simp only[eA,eB,eC,Act.put,eD,eE,eF]
  refine dK 29 rfl ?_
  simp only[eA,eB,eC,Act.put,eD,eE,eF]
  refine pl [30,31] ?_
  repeat
   refine dI ?_ rfl (fun w1 hl=>?_) ?_
   rotate_left
   ·obtain⟨x0,x1,x2,x3,x4⟩:=(HF.out w1 hl).cells;go_simp;try with_reducible rfl
   simp only[eA,eB,eC,Act.put,eD,eE,eF]
  refine bU ?_
  refine aH (by kernel_rfl) (fun w1 hl=>?_) _
  go_wp2
  go_ret
  exact⟨rfl,(HB.out _ hl)⟩
end
section
open Go.RowKit
def qF(b:Nat)(g:Nat×Nat)(n cap:Nat)(fr:Nat)(l:List UInt8)(w:World)(v:Value)(i k p:Nat)(e:Ending)(w':World):Prop:=e=.returned v∧eY w' b g n cap i fr k p l∧Only b w w'
theorem eY.set{w:World}{b:Nat}{g:Nat×Nat}{n cap i fr k p:Nat}{l:List UInt8}(h:eY w b g n cap i fr k p l)(j:Nat):eY (w.setCell ⟨b,1,none⟩ (.int .i64 (j:Nat))) b g n cap j fr k p l :=
 ⟨h.box.set 1 _,(Only.set w 1 _).slice h.sl h.ne,h.ne⟩
theorem eY.fault{w:World}{b:Nat}{g:Nat×Nat}{n cap i fr k p:Nat}{l:List UInt8}(h:eY w b g n cap i fr k p l)(k' p':Nat):eY ((w.setCell ⟨b,3,none⟩ (.int .i64 (k':Nat))).setCell ⟨b,4,none⟩ (.int .i64 (p':Nat))) b g n cap i fr k' p' l :=
 ⟨(h.box.set 3 _).set 4 _,(Only.set _ 4 _).slice ((Only.set w 3 _).slice h.sl h.ne) h.ne,h.ne⟩
theorem fG(b:Nat)(g:Nat×Nat)(n cap i fr k p:Nat)(l:List UInt8)(w:World)(h:eY w b g n cap i fr k p l)(hi:i≤n) :
  Calls Tryz.prog 290 #[.pointer (some ⟨b,0,none⟩)] w (aY w (.int .i64 ((n - i:Nat):Int))):=by
 obtain⟨hlen,hcap,hcap',_⟩:=h.sl.cellsA
 have hnb:n≤9223372036854775807:=by omega
 have hw:IntKind.i64.wrap ((n:Int) - (i:Int))=((n - i:Nat):Int):=by rw[IntWalk.i64_in _ (by omega)];omega
 have HF:Hid (∀ v,Later w.drew v→eY v b g n cap i fr k p l):=ah fun v hl=>(h.kept (Below.refl _ _).drew).kept hl
 have HB:Hid (∀ v,Later w.drew v→Below w.heap.size w v):=ah fun v hl=>(Below.refl _ _).drew.trans (Below.mono hl (Nat.le_refl _))
 clear h hlen hcap
 go_enter Tryz.func290,Tryz.ntmps290
 go_wp2_with fail
 refine aA (R:=Later) 11 (by kernel_rfl) ?_
 refine pl [0,1,2,3,4,5,6,7,8,9,10] ?_
 repeat
  refine dI ?_ rfl (fun w1 hl=>?_) ?_
  rotate_left
  ·obtain⟨x0,x1,x2,x3,x4⟩:=(HF.out w1 hl).cells;go_simp;try with_reducible rfl
  simp only[eA,eB,eC,Act.put,eD,eE,eF]
 refine bU ?_
 refine aH (by kernel_rfl) (fun w1 hl=>?_) _
 go_wp2
 go_ret
 exact⟨rfl,HB.out _ hl⟩
theorem zy(b:Nat)(g:Nat×Nat)(n cap i fr k p:Nat)(l:List UInt8)(c:UInt8)(w:World)(h:eY w b g n cap i fr k p l) :
  Calls Tryz.prog 276 #[.pointer (some ⟨b,0,none⟩),.int .u8 c.toNat] w (qF b g n cap fr l w (.bool (aX l i c)) (if aX l i c then i+1 else i) k p):=by
 obtain⟨hlen,hcap,hcap',_⟩:=h.sl.cellsA
 have KO:=fun w1 (hb:Below w.heap.size w w1)=>Eb b g n cap i fr k p l c w1 (h.kept hb)
 have HH:=ah KO
 clear KO
 cases hb:aX l i c with
 | false =>
  rw[hb] at HH
  clear hcap hlen
  have HR:=ah h
  clear h hb
  go_enter Tryz.func276,Tryz.ntmps276
  go_wp2_with (go_at_call 274;go_must (refine(HH.out _ (Below.refl _ _)).mono ?_;rintro e w3 ⟨rfl,hB3⟩))
  go_ret
  exact⟨rfl,HR.out.kept hB3,Only.below hB3 (Nat.le_of_lt HR.out.box.lt)⟩
 | true =>
  rw[hb] at HH
  have hin:i<l.length:=by unfold aX at hb;simp only[Bool.and_eq_true,decide_eq_true_eq] at hb;exact hb.1
  have hw:IntKind.i64.wrap ((i:Int)+1)=((i+1:Nat):Int):=by rw[IntWalk.i64_in _ (by omega)];omega
  clear hcap hlen hb
  have HR:=ah h
  clear h
  go_enter Tryz.func276,Tryz.ntmps276
  go_wp2_with (go_at_call 274;go_must (refine(HH.out _ (Below.refl _ _)).mono ?_;rintro e w3 ⟨rfl,hB3⟩;have gy:=HR.out.kept hB3;obtain⟨x0,x1,x2,x3,x4⟩:=gy.cells;have hf:=gy.box.free 1))
  go_ret
  exact⟨rfl,gy.set (i+1),(Only.below hB3 (Nat.le_of_lt HR.out.box.lt)).trans (Only.set _ _ _)⟩
theorem iD(b:Nat)(g:Nat×Nat)(n cap i fr k p:Nat)(l:List UInt8)(kind pos:Nat)(w:World)(h:eY w b g n cap i fr k p l) :
  Calls Tryz.prog 291 #[.pointer (some ⟨b,0,none⟩),.int .i64 kind,.int .i64 pos] w (qF b g n cap fr l w (.tuple #[]) i (if k=0 then kind else k) (if k=0 then pos else p)):=by
 obtain⟨x0,x1,x2,x3,x4⟩:=h.cells
 have f3:=h.box.free 3
 have f4:=h.box.free 4
 by_cases hk:k=0
 ·subst hk
  rw[if_pos rfl,if_pos rfl]
  have HR:=ah h
  clear h
  go_enter Tryz.func291,Tryz.ntmps291
  go_wp2
  go_end0
  exact⟨rfl,HR.out.fault kind pos,(Only.set _ _ _).trans (Only.set _ _ _)⟩
 ·rw[if_neg hk,if_neg hk]
  have e1:((k:Int)==0)=false:=by simp;omega
  have e2:(k==0)=false:=by simp;omega
  have HR:=ah h
  clear h
  go_enter Tryz.func291,Tryz.ntmps291
  go_wp2
  go_end0
  exact⟨rfl,HR.out,Only.refl _ _⟩
end
end Go.Proofs.YtengfapcaaacaaaGreatDoor
