/- The texts of E5, in few letters (mini.py). -/
import Derived.Test.YtengfapcaaacaaaGreatDoorProg
import Derived.Test.YtengfapcaaacaaaGreatDoorF4
set_option linter.unusedVariables false
set_option linter.unusedSimpArgs false
set_option maxHeartbeats 800000
set_option maxRecDepth 20000
namespace Go.Proofs.YtengfapcaaacaaaGreatDoor
section
open Go.RowKit
def mix(s t:aF)(j:Nat):aF:=zy (if 0<j then word t 0 else word s 0) (if 1<j then word t 1 else word s 1) (if 2<j then word t 2 else word s 2) (if 3<j then word t 3 else word s 3)
theorem wP(s t:aF)(j k:Nat)(hk:k<4):word (mix s t j) k=if k<j then word t k else word s k:=by
 unfold mix
 have hm:∀ i,(if i<j then word t i else word s i) % 2 ^ 64=if i<j then word t i else word s i:=fun i=>Nat.mod_eq_of_lt (by split <;> exact word_lt _ _)
 obtain⟨e0,e1,e2,e3⟩:=Qz (if 0<j then word t 0 else word s 0) (if 1<j then word t 1 else word s 1) (if 2<j then word t 2 else word s 2) (if 3<j then word t 3 else word s 3)
 match k,hk with
 | 0,_=>rw[e0,hm 0]
 | 1,_=>rw[e1,hm 1]
 | 2,_=>rw[e2,hm 2]
 | 3,_=>rw[e3,hm 3]
theorem acR(s t:aF):mix s t 0=s:=word_inj fun i hi=>by rw[wP _ _ _ _ hi,if_neg (by omega)]
theorem acS(s t:aF):mix s t 4=t:=word_inj fun i hi=>by rw[wP _ _ _ _ hi,if_pos hi]
theorem acT(s t:aF)(j:Nat)(hj:j<4):(dZ (mix s t j)).setIfInBounds j (.int .u64 (word t j:Nat))=dZ (mix s t (j+1)):=by
 have h:=acB (mix s t j) (mix s t (j+1)) j hj fun i hi hne=>by
  rw[wP _ _ _ _ hi,wP _ _ _ _ hi]
  by_cases h:i<j
  ·rw[if_pos h,if_pos (by omega)]
  ·rw[if_neg h,if_neg (by omega)]
 rwa[wP _ _ _ _ hj,if_pos (by omega)] at h
theorem Box.mix{w:World}{b E:Nat}{s t:aF}{j:Nat}(h:Box w b (dZ (mix s t j)) E)(hj:j<4)(v:Value)(hv:v=.int .u64 (word t j:Nat)):Box (w.setCell ⟨b,j,none⟩ v) b (dZ (Proofs.YtengfapcaaacaaaGreatDoor.mix s t (j+1))) E:=by
 subst hv
 rw[←acT s t j hj]
 exact h.set j _
theorem Box.anZ{w:World}{b E:Nat}{s t:aF}{j:Nat}(h:Box w b (dZ (Proofs.YtengfapcaaacaaaGreatDoor.mix s t j)) E)(hj:j<4):w.cell? ⟨b,j,none⟩=some (.int .u64 (word s j:Nat)):=by
 have:=h.anW hj
 rwa[wP _ _ _ _ hj,if_neg (by omega)] at this
theorem E5(s:aF)(j:Nat)(h:j<4)(w:World):(Instr.index 113 (.agg #[.int .u64 (word s 0:Nat),.int .u64 (word s 1:Nat),.int .u64 (word s 2:Nat),.int .u64 (word s 3:Nat)]) (.int .i64 (j:Nat))).run Tryz.prog w=.ok (.int .u64 (word s j:Nat)) w:=by
 have i0:(Instr.index 113 (.agg #[.int .u64 (word s 0:Nat),.int .u64 (word s 1:Nat),.int .u64 (word s 2:Nat),.int .u64 (word s 3:Nat)]) (.int .i64 (0:Nat))).run Tryz.prog w=.ok (.int .u64 (word s 0:Nat)) w:=by kernel_rfl
 have i1:(Instr.index 113 (.agg #[.int .u64 (word s 0:Nat),.int .u64 (word s 1:Nat),.int .u64 (word s 2:Nat),.int .u64 (word s 3:Nat)]) (.int .i64 (1:Nat))).run Tryz.prog w=.ok (.int .u64 (word s 1:Nat)) w:=by kernel_rfl
 have i2:(Instr.index 113 (.agg #[.int .u64 (word s 0:Nat),.int .u64 (word s 1:Nat),.int .u64 (word s 2:Nat),.int .u64 (word s 3:Nat)]) (.int .i64 (2:Nat))).run Tryz.prog w=.ok (.int .u64 (word s 2:Nat)) w:=by kernel_rfl
 have i3:(Instr.index 113 (.agg #[.int .u64 (word s 0:Nat),.int .u64 (word s 1:Nat),.int .u64 (word s 2:Nat),.int .u64 (word s 3:Nat)]) (.int .i64 (3:Nat))).run Tryz.prog w=.ok (.int .u64 (word s 3:Nat)) w:=by kernel_rfl
 match j,h with
 | 0,_=>exact i0
 | 1,_=>exact i1
 | 2,_=>exact i2
 | 3,_=>exact i3
theorem acU(s x:aF)(j:Nat):bits BinOp.or IntKind.u64 (word s j:Nat) (word x j:Nat)=((word (s ||| x) j:Nat):Int):=by
 rw[agC,bits_or_u64_nat _ _ (word_lt _ _) (word_lt _ _)]
theorem XM(a:Option Addr)(cap:Nat)(l:List aF)(w:World)(h:au w (.slice a l.length cap) 4 encS l) :
  Calls Tryz.prog 160 #[.slice a l.length cap] w (bF w (mY (l.foldl (· ||| ·) 0))):=by
 obtain⟨b,o,hlen,hcap,hcap',ha,hbl,hcell⟩:=h.sets
 clear hlen h hbl
 have HC:=ah hcell
 clear hcell
 go_enter Tryz.func160,Tryz.ntmps160
 go_wp2
 go_loopw [10] (fun i wr=>∃ j:Nat,j≤l.length∧i=.int .i64 j∧Box wr w.heap.size (dZ 0) 113∧Box wr (w.heap.size+1) (dZ ((l.take j).foldl (· ||| ·) 0)) 113∧Below w.heap.size w wr) (fun i _=>l.length - (intOf i).toNat)
 case atStart =>
  refine⟨0,Nat.zero_le _,rfl,?_,?_,by go_grown⟩
  ·rw[jS];exact(Box.new' rfl _ _).alloc _
  ·rw[List.take_zero,List.foldl_nil,jS];exact Box.new' (by simp) _ _
 case round =>
  obtain⟨j,hj,rfl,h0,hb,hB⟩:=hrel
  by_cases hlt:j<l.length
  ·have hdj:decide ((j:Int)<(l.length:Int))=true:=decide_eq_true (by omega)
   obtain rfl:=ha j hlt
   obtain⟨c0,c1,c2,c3⟩:=HC.out j hlt wr hB
   have e2:(l.take (j+1)).foldl (· ||| ·) 0=(l.take j).foldl (· ||| ·) 0 ||| l[j]:=by rw[List.take_succ_eq_append_getElem hlt,List.foldl_append];rfl
   have HE:=ah e2
   clear e2
   generalize l[j]=x at *
   generalize (l.take j).foldl (· ||| ·) 0=s at *
   have hop:=acU s x
   generalize s ||| x=t at *
   have hs0:=h0.lt
   have hs1:=hb.lt
   go_wp2
   go_loopw [15] (fun i wr=>∃ k:Nat,k≤4∧i=.int .i64 k∧Box wr w.heap.size (dZ 0) 113∧Box wr (w.heap.size+1) (dZ (mix s t k)) 113∧Below w.heap.size w wr) (fun i _=>4 - (intOf i).toNat)
   case atStart=>exact⟨0,Nat.zero_le _,rfl,h0.alloc _,by rw[acR];exact hb.alloc _,by go_grown⟩
   case round =>
    obtain⟨k,hk,rfl,h0,hb,hB⟩:=hrel
    by_cases hlt2:k<4
    ·have gw:=E5 x k hlt2
     have hc:=hb.anZ hlt2
     have hf:=hb.free k
     have hv:=hop k
     go_wp2
     go_roundw
     case rel=>exact⟨k+1,hlt2,by go_num,h0.other _ _ (by simp),hb.mix hlt2 _ rfl,by go_grown⟩
     case measure=>simp[intOf];omega
    ·obtain rfl:k=4:=by omega
     rw[acS] at hb
     go_wp2
     go_roundw
     case rel=>exact⟨j+1,hlt,by go_num,h0,by rw[HE.out];exact hb,hB⟩
     case measure=>simp[intOf];omega
  ·obtain rfl:j=l.length:=by omega
   rw[List.take_length] at hb
   obtain⟨⟨p0,p1,p2,p3⟩,⟨q0,q1,q2,q3⟩⟩:=h0.uy
   obtain⟨⟨r0,r1,r2,r3⟩,_⟩:=hb.uy
   go_wp2
   exact eH Tryz.results160 rfl (h0.sO rfl _ _ _ _) Tryz.underlying113 rfl (by kernel_rfl) rfl ⟨rfl,by go_grown⟩
end
section
open Go.RowKit
theorem Jb(s:aF)(x:Nat)(w:World)(hx:x<256) :
  Calls Tryz.prog 200 #[mY s,.int .u8 x] w (bF w (.bool (mem s x))):=by
 have hxi:=x9 s (x / 64) (by omega)
 have hz:=word_lt s (x / 64)
 go_enter Tryz.func200,Tryz.ntmps200
 go_wp2
 go_ret
 exact⟨congrArg (fun b=>Ending.returned (.bool b)) ((and_one _ _ hz).trans (Dv s x).symm),by go_grown⟩
theorem VR(a:Option Addr)(cap:Nat)(xs:List Nat)(w:World)(h:au w (.slice a xs.length cap) 1 (fun x:Nat=>[.int .u8 x]) xs)(hx:∀ x∈xs,x<256) :
  Calls Tryz.prog 161 #[.slice a xs.length cap] w (bF w (mY (uH xs))):=by
 obtain⟨b,o,hlen,hcap,hcap',ha,hcell⟩:=h.open
 clear hlen h
 go_enter Tryz.func161,Tryz.ntmps161
 go_wp2
 go_loopw [8] (fun i wr=>∃ k:Nat,k≤xs.length∧i=.int .i64 k∧Box wr w.heap.size (dZ 0) 113∧Box wr (w.heap.size+1) (dZ (uH (xs.take k))) 113∧Below w.heap.size w wr) (fun i _=>xs.length - (intOf i).toNat)
 case atStart =>
  refine⟨0,Nat.zero_le _,rfl,?_,?_,by go_grown⟩
  ·rw[jS];exact(Box.new' rfl _ _).alloc _
  ·rw[List.take_zero,show uH []=0 from rfl,jS];exact Box.new' (World.size_alloc _ _).symm _ _
 case round =>
  obtain⟨k,hk,rfl,hb0,hb1,hB⟩:=hrel
  by_cases hlt:k<xs.length
  ·obtain rfl:=ha k hlt
   have hxk:=hx xs[k] (List.getElem_mem hlt)
   have hc:wr.cell? ⟨b,o+k,none⟩=some (.int .u8 (xs[k]:Nat)):=by
    have:=hcell k hlt 0 _ rfl
    rw[hB.cell (World.block_lt_of_cell? w _ (by simpa using this))];simpa using this
   have e1:wr.cell? ⟨w.heap.size+1,xs[k] / 64,none⟩=some (.int .u64 (word (uH (xs.take k)) (xs[k] / 64):Nat)):=by
    rw[hb1.cell];simpa using x9 _ _ (by omega)
   have e2:=hb1.free (xs[k] / 64)
   have e3:uH (xs.take (k+1))=lI (uH (xs.take k)) xs[k]:=by rw[List.take_succ_eq_append_getElem hlt,acA]
   have e4:=ah e3
   clear e3 ha hcell hx
   generalize xs[k]=x at *
   have hw:=word_lt (uH (xs.take k)) (x / 64)
   go_wp2
   go_roundw
   case rel =>
    refine⟨k+1,hlt,by go_num,hb0.other _ _ (by simp),?_,by go_grown⟩
    rw[e4.out,or_bit _ _ hw (Nat.mod_lt _ (by decide)),←JY _ _ hxk]
    exact hb1.set _ _
   case measure=>simp[intOf];omega
  ·have hke:k=xs.length:=by omega
   subst hke
   obtain⟨⟨p0,p1,p2,p3⟩,⟨q0,q1,q2,q3⟩⟩:=hb0.uy
   obtain⟨⟨r0,r1,r2,r3⟩,_⟩:=hb1.uy
   rw[List.take_length] at r0 r1 r2 r3
   clear hb1 ha hcell
   go_wp2
   exact eH Tryz.results161 rfl (hb0.sO rfl _ _ _ _) Tryz.underlying113 rfl (by kernel_rfl) rfl ⟨rfl,by go_grown⟩
theorem zB(s:aF)(x:Nat)(w:World)(hx:x<256) :
  Calls Tryz.prog 166 #[mY s,.int .i64 x] w (bF w (.bool (mem s x))):=by
 have hxi:=x9 s (x / 64) (by omega)
 have hz:=word_lt s (x / 64)
 go_enter Tryz.func166,Tryz.ntmps166
 go_wp2
 go_ret
 exact⟨congrArg (fun b=>Ending.returned (.bool b)) ((and_one _ _ hz).trans (Dv s x).symm),by go_grown⟩
theorem Jc(s:aF)(x:Nat)(w:World)(hx:x<256) :
  Calls Tryz.prog 165 #[mY s,.int .i64 x] w (bF w (mY (lI s x))):=by
 have hxi:=x9 s (x / 64) (by omega)
 have hst:=XC s x hx
 go_enter Tryz.func165,Tryz.ntmps165
 go_wp2
 exact eH Tryz.results165 rfl (Box.new' (World.size_alloc _ _).symm _ _) Tryz.underlying113 rfl (by kernel_rfl) rfl ⟨rfl,by go_grown⟩
theorem E8(s:aF)(w:World) :
  Calls Tryz.prog 122 #[mY s] w (bF w (.int .i64 (leastOf s))):=by
 go_enter Tryz.func122,Tryz.ntmps122
 go_wp2
 go_loopw [3] (fun i wr=>∃ k:Nat,k≤256∧i=.int .i64 k∧(∀ c,c<k→mem s c=false)∧Box wr w.heap.size (dZ s) 113∧Below w.heap.size w wr) (fun i _=>256 - (intOf i).toNat)
 case atStart=>exact⟨0,Nat.zero_le _,rfl,fun c hc=>absurd hc (Nat.not_lt_zero c),Box.new' rfl _ _,by go_grown⟩
 case round =>
  obtain⟨k,hk,rfl,hno,hb0,hB⟩:=hrel
  obtain⟨⟨r0,r1,r2,r3⟩,_⟩:=hb0.uy
  have HN:=ah hno
  clear hno
  by_cases hlt:k<256
  ·cases hm:mem s k with
   | false =>
    have HM:=ah hm
    go_wp2_with (go_at_call 166;refine(zB _ _ _ hlt).mono ?_;rintro e w1 ⟨rfl,hb⟩;rw[HM.out])
    go_roundw
    case rel=>exact⟨k+1,hlt,by go_num,fun c hc=>if h:c=k then h▸HM.out else HN.out c (by omega),hb0.kept hb,hB.trans (hb.mono hB.size)⟩
    case measure=>simp[intOf];omega
   | true =>
    have HM:=ah hm
    go_wp2_with (go_at_call 166;refine(zB _ _ _ hlt).mono ?_;rintro e w1 ⟨rfl,hb⟩;rw[HM.out])
    go_ret
    refine⟨?_,hB.trans (hb.mono hB.size)⟩
    rw[Ep s k hlt HM.out HN.out];rfl
  ·go_wp2
   go_ret
   refine⟨?_,hB⟩
   rw[QA s (fun c hc=>HN.out c (by omega))];rfl
theorem acV(lo hi:Nat)(w:World)(hhi:hi<256) :
  Calls Tryz.prog 209 #[.int .i64 lo,.int .i64 hi] w (bF w (mY (oO fun b=>decide (lo≤b)&&decide (b≤hi)))):=by
 go_enter Tryz.func209,Tryz.ntmps209
 go_wp2
 go_loopw [6] (fun i wr=>∃ k:Nat,lo≤k∧(k≤hi+1∨k=lo)∧i=.int .i64 k∧Box wr w.heap.size (dZ 0) 113∧Box wr (w.heap.size+1) (dZ (oO fun b=>decide (lo≤b)&&decide (b<k))) 113∧Below w.heap.size w wr) (fun i _=>hi+1 - (intOf i).toNat)
 case atStart =>
  refine⟨lo,Nat.le_refl _,.inr rfl,rfl,?_,?_,by go_grown⟩
  ·rw[jS];exact(Box.new' rfl _ _).alloc _
  ·rw[show(oO fun b=>decide (lo≤b)&&decide (b<lo))=0 from(Zv 0 _ fun b _=>by rw[Dw];by_cases h:lo≤b <;> simp[h]).symm,jS];exact Box.new' (World.size_alloc _ _).symm _ _
 case round =>
  obtain⟨k,hlk,hk,rfl,hb0,hb1,hB⟩:=hrel
  by_cases hlt:k≤hi
  ·obtain⟨⟨r0,r1,r2,r3⟩,_⟩:=hb1.uy
   have ae6:k<256:=by omega
   go_wp2_with (go_at_call 165;refine(Jc _ _ _ ae6).mono ?_;rintro e w1 ⟨rfl,hb⟩;have hB1:=hB.trans (hb.mono hB.size);have hx0:=hb0.kept hb;have hx1:=hb1.kept hb;obtain⟨⟨s0,s1,s2,s3⟩,⟨t0,t1,t2,t3⟩⟩:=hx1.uy)
   go_roundw
   case rel =>
    refine⟨k+1,by omega,.inl (by omega),by go_num,hx0.Zu (by simp) _ _ _ _,?_,by go_grown⟩
    have e:(oO fun b=>decide (lo≤b)&&decide (b<k+1))=lI (oO fun b=>decide (lo≤b)&&decide (b<k)) k:=by
     rw[Og _ _ ae6]
     refine AO fun b _=>?_
     by_cases h1:b<k
     ·simp[h1,show b<k+1 by omega,show ¬ k=b by omega]
     ·by_cases h2:k=b
      ·subst h2;simp[hlk]
      ·simp[h1,h2,show ¬ b<k+1 by omega]
    rw[e];exact hx1.sO rfl _ _ _ _
   case measure=>simp[intOf];omega
  ·obtain⟨⟨p0,p1,p2,p3⟩,⟨q0,q1,q2,q3⟩⟩:=hb0.uy
   have e:(oO fun b=>decide (lo≤b)&&decide (b<k))=(oO fun b=>decide (lo≤b)&&decide (b≤hi)):=by
    refine AO fun b _=>?_
    by_cases h1:lo≤b
    ·simp[h1];omega
    ·simp[h1]
   rw[e] at hb1
   obtain⟨⟨r0,r1,r2,r3⟩,_⟩:=hb1.uy
   clear e
   go_wp2
   exact eH Tryz.results209 rfl (hb0.sO rfl _ _ _ _) Tryz.underlying113 rfl (by kernel_rfl) rfl ⟨rfl,by go_grown⟩
end
section
open Go.RowKit
def Nf.goes(y:Nf)(s:Nat):List Nat:=(y.links.filter fun l=>l.1==s).map (·.2)
def Nf.out(y:Nf)(s:Nat):List (Nat×aF×Nat):=y.edges.filter fun e=>e.1==s
def gB(y:Nf)(l:List Nat):List Nat:=iG y.states (qH y.states y.goes (y.states+1) (l.foldl (jM y.states) (0,[])))
def iK(y:Nf)(l:List Nat)(b:Nat):List Nat:=gB y (l.flatMap fun s=>((y.out s).filter fun e=>mem e.2.1 b).map (·.2.2))
theorem Jd(n:Nat)(l:List Nat)(st:Nat×List Nat)(h:st.1<2 ^ n):(l.foldl (jM n) st).1<2 ^ n:=by
 induction l generalizing st with
 | nil=>exact h
 | cons a l ih=>rw[List.foldl_cons];exact ih _ (agJ n st a h)
theorem Fa(n:Nat)(goes:Nat→List Nat):∀ (f:Nat) (st:Nat×List Nat),st.1<2 ^ n→qH n goes f st<2 ^ n
 | 0,st,h=>h
 | f+1,st,h=>by
  rw[qH]
  split
  ·exact h
  ·exact Fa n goes f _ (Jd n _ _ h)
theorem acW(n:Nat)(st:Nat×List Nat)(s:Nat)(h:∀ x∈st.2,x<n):∀ x∈(jM n st s).2,x<n:=by
 unfold jM
 split
 ·rename_i h1
  intro x hx
  rcases List.mem_append.1 hx with hx | hx
  ·exact h x hx
  ·simp at hx;omega
 ·exact h
theorem Ou(n:Nat)(l:List Nat)(st:Nat×List Nat)(h:∀ x∈st.2,x<n):∀ x∈(l.foldl (jM n) st).2,x<n:=by
 induction l generalizing st with
 | nil=>exact h
 | cons a l ih=>rw[List.foldl_cons];exact ih _ (acW n st a h)
theorem Kt{α β:Type}(f:β→α→β)(l:List α)(z:β)(k:Nat)(h:k<l.length):(l.take (k+1)).foldl f z=f ((l.take k).foldl f z) l[k]:=by
 rw[List.take_succ_eq_append_getElem h,List.foldl_append];rfl
theorem Ov{α β:Type}(f:β→α→β)(l:List α)(z:β):(l.take l.length).foldl f z=l.foldl f z:=by rw[List.take_length]
end
section
open Go.RowKit
theorem Je:(Tryz.prog.info? 22).map (fun i=>(i.zero,i.size))=some (some (.agg (aG fun _=>0)),256):=by kernel_rfl
theorem gZ(w:World):(zeroValue 22).run Tryz.prog w=.ok (.agg (aG fun _=>0)) w:=(zero_of_info Je).1 w
theorem aK(f:Nat→Nat):(Tryz.prog.info? 22).map (·.size)=some (aG f).size:=by rw[aU];exact(zero_of_info Je).2
theorem Jf:o7 Tryz.prog 4 (fun n:Bool=>Value.bool n):=XD Tryz.underlying4
theorem UU(k:Nat→Bool)(w:World)
  (hkey:∀ b:Nat,b<256→∀ w',Below w.heap.size w w'→Calls Tryz.prog 197 #[.int .i64 b] w' (bF w' (.bool (k b)))) :
  Calls Tryz.prog 196 #[.func (.func 197) #[] #[]] w (bF w (.tuple #[.agg (aG (aT (aH k))),.int .i64 (iq (aH k):Nat)])):=by
 have E:=gY k
 have hz:=gZ
 have hmm:=@run_makeMap Tryz.prog
 have HK:=ah hkey
 clear hkey
 generalize hR:aH k=R at *
 have HR:=ah hR
 clear hR
 go_enter Tryz.func196,Tryz.ntmps196
 go_wp2
 go_loopw [11] (fun i wr=>∃ n:Nat,n≤256∧i=.int .i64 n∧Box wr w.heap.size (aG fun _=>0) 22∧Box wr (w.heap.size+1) (aG fun b=>if b<n then aT R b else 0) 22∧aP wr (w.heap.size+1+1) (fun n:Bool=>Value.bool n) (oh k (aC R n))∧Below w.heap.size w wr) (fun i _=>256 - (intOf i).toNat)
 case atStart =>
  refine⟨0,Nat.zero_le _,rfl,((Box.new' rfl _ _).alloc _).alloc _,?_,?_,by go_grown⟩
  ·rw[bY (g:=fun _=>0) (fun i _=>by simp)];exact(Box.new' (World.size_alloc _ _).symm _ _).alloc _
  ·rw[zf];refine aP.new' ?_ _;simp
 case round =>
  obtain⟨n,hn,rfl,hb0,hb1,hm,hB⟩:=hrel
  by_cases hlt:n<256
  ·have hlook:=yZ k n (aC R n)
   rw[HR.out] at hlook
   have hlen:=gU R n
   cases hany:(aC R n).any (R n) with
   | true =>
    obtain⟨e1,e2⟩:=DI E.refl hlt hany
    rw[e2] at hlook
    have HL:=ah hlook
    have HE:=ah e1
    clear hlook e1 e2 hany
    go_wp2_with (go_at_call 197;go_must (refine(HK.out n hlt _ hB).mono ?_;rintro e w1 ⟨rfl,hb⟩;have hB1:=(hB.trans (hb.mono hB.size));have hx0:=(hb0.kept hb);have hx1:=(hb1.kept hb);have hm1:=(hm.kept hb);have hrun:=hm1.nS Jf Tryz.underlying313 (Tryz.zeroValue5 _) (k n);rw[HL.out] at hrun;have hc:=(hx1.cell n).trans (dG _ n hlt);have hf:=hx1.free n))
    go_roundw
    case rel =>
     refine⟨n+1,hlt,by go_num,hx0.other _ _ (by simp),?_,?_,by go_grown⟩
     ·have:=hx1.set n (.int .u8 (aT R n:Nat))
      rw[o9,bY (g:=fun b=>if b<n+1 then aT R b else 0) (lY rfl)] at this
      exact this
     ·rw[HE.out];exact hm1.other _ _ (by simp)
    case measure=>simp[intOf];omega
   | false =>
    obtain⟨e1,e2⟩:=DF E.refl hlt hany
    rw[uM hany] at hlook
    have HL:=ah hlook
    have HE:=ah e1
    have HN:=ah e2
    clear hlook e1 e2 hany
    go_wp2_with (go_at_call 197;go_must (refine(HK.out n hlt _ hB).mono ?_;rintro e w1 ⟨rfl,hb⟩;have hB1:=(hB.trans (hb.mono hB.size));have hx0:=(hb0.kept hb);have hx1:=(hb1.kept hb);have hm1:=(hm.kept hb);have hrun:=hm1.nS Jf Tryz.underlying313 (Tryz.zeroValue5 _) (k n);rw[HL.out] at hrun;have hlen1:=hm1.uK Tryz.underlying313 3 _ (kT k (aC R n));obtain⟨w2,hput,hm2,hoth,hsz2,hbel⟩:=hm1.nD Jf Tryz.underlying313 (k n) (.int .u8 ((aC R n).length:Nat));have hy0:=hx0.turn hoth (by omega);have hy1:=hx1.turn hoth (by omega);have hB2:=hB1.trans (hbel w.heap.size (by omega));have hlk:look (k n) (oh k (aC R n))=none:=HL.out;rw[jJ _ _ _ hlk,←yY] at hm2;have hc:=(hy1.cell n).trans (dG _ n hlt);have hf:=hy1.free n;have hconv:=kM (aC R n).length (by omega); clear hoth hbel hsz2 hlk))
    go_roundw
    case rel =>
     refine⟨n+1,hlt,by go_num,hy0.other _ _ (by simp),?_,?_,by go_grown⟩
     ·have:=hy1.set n (.int .u8 ((aC R n).length:Nat))
      rw[o9,bY (g:=fun b=>if b<n+1 then aT R b else 0) (lY HN.out)] at this
      exact this
     ·rw[HE.out];exact hm2.other _ _ (by simp)
    case measure=>simp[intOf];omega
  ·obtain rfl:n=256:=by omega
   have hlen1:=hm.uK Tryz.underlying313 3 _ (kT k (aC R 256))
   rw[bY (g:=aT R) (fun i hi=>if_pos hi)] at hb1
   go_wp2_with (first | (refine wpList_load_row rfl 22 (.tmp 4) rfl (w.heap.size+1) rfl _ _ _ _ hb1 Tryz.underlying22 rfl (aK _) ?_) | (refine wpList_store_row rfl 22 (.tmp 2) (.tmp 35) rfl w.heap.size _ rfl rfl _ _ hb0 (aK _) (by rw[aU,aU]) (eu _) ?_))
   refine dN Tryz.results196 rfl rfl (hb0.setRow _) Tryz.underlying22 rfl (aK _) rfl ⟨?_,below_setRow hB (Nat.le_refl _) _⟩
   rw[jK];rfl
theorem QT:o7 Tryz.prog 5 (fun n:Int=>Value.int .u8 n):=Oi Tryz.underlying5
theorem ZI(k:Nat→Int)(p:Value)(w:World)
  (hkey:∀ b:Nat,b<256→∀ w',Below w.heap.size w w'→Calls Tryz.prog 159 #[.int .i64 b,p] w' (bF w' (.int .u8 (k b)))) :
  Calls Tryz.prog 158 #[.func (.func 159) #[] #[p]] w (bF w (.tuple #[.agg (aG (aT (aH k))),.int .i64 (iq (aH k):Nat)])):=by
 have E:=gY k
 have hz:=gZ
 have hmm:=@run_makeMap Tryz.prog
 have HK:=ah hkey
 clear hkey
 generalize hR:aH k=R at *
 have HR:=ah hR
 clear hR
 go_enter Tryz.func158,Tryz.ntmps158
 go_wp2
 go_loopw [11] (fun i wr=>∃ n:Nat,n≤256∧i=.int .i64 n∧Box wr w.heap.size (aG fun _=>0) 22∧Box wr (w.heap.size+1) (aG fun b=>if b<n then aT R b else 0) 22∧aP wr (w.heap.size+1+1) (fun n:Int=>Value.int .u8 n) (oh k (aC R n))∧Below w.heap.size w wr) (fun i _=>256 - (intOf i).toNat)
 case atStart =>
  refine⟨0,Nat.zero_le _,rfl,((Box.new' rfl _ _).alloc _).alloc _,?_,?_,by go_grown⟩
  ·rw[bY (g:=fun _=>0) (fun i _=>by simp)];exact(Box.new' (World.size_alloc _ _).symm _ _).alloc _
  ·rw[zf];refine aP.new' ?_ _;simp
 case round =>
  obtain⟨n,hn,rfl,hb0,hb1,hm,hB⟩:=hrel
  by_cases hlt:n<256
  ·have hlook:=yZ k n (aC R n)
   rw[HR.out] at hlook
   have hlen:=gU R n
   cases hany:(aC R n).any (R n) with
   | true =>
    obtain⟨e1,e2⟩:=DI E.refl hlt hany
    rw[e2] at hlook
    have HL:=ah hlook
    have HE:=ah e1
    clear hlook e1 e2 hany
    go_wp2_with (go_at_call 159;go_must (refine(HK.out n hlt _ hB).mono ?_;rintro e w1 ⟨rfl,hb⟩;have hB1:=(hB.trans (hb.mono hB.size));have hx0:=(hb0.kept hb);have hx1:=(hb1.kept hb);have hm1:=(hm.kept hb);have hrun:=hm1.nS QT Tryz.underlying291 (Tryz.zeroValue5 _) (k n);rw[HL.out] at hrun;have hc:=(hx1.cell n).trans (dG _ n hlt);have hf:=hx1.free n))
    go_roundw
    case rel =>
     refine⟨n+1,hlt,by go_num,hx0.other _ _ (by simp),?_,?_,by go_grown⟩
     ·have:=hx1.set n (.int .u8 (aT R n:Nat))
      rw[o9,bY (g:=fun b=>if b<n+1 then aT R b else 0) (lY rfl)] at this
      exact this
     ·rw[HE.out];exact hm1.other _ _ (by simp)
    case measure=>simp[intOf];omega
   | false =>
    obtain⟨e1,e2⟩:=DF E.refl hlt hany
    rw[uM hany] at hlook
    have HL:=ah hlook
    have HE:=ah e1
    have HN:=ah e2
    clear hlook e1 e2 hany
    go_wp2_with (go_at_call 159;go_must (refine(HK.out n hlt _ hB).mono ?_;rintro e w1 ⟨rfl,hb⟩;have hB1:=(hB.trans (hb.mono hB.size));have hx0:=(hb0.kept hb);have hx1:=(hb1.kept hb);have hm1:=(hm.kept hb);have hrun:=hm1.nS QT Tryz.underlying291 (Tryz.zeroValue5 _) (k n);rw[HL.out] at hrun;have hlen1:=hm1.uK Tryz.underlying291 3 _ (kT k (aC R n));obtain⟨w2,hput,hm2,hoth,hsz2,hbel⟩:=hm1.nD QT Tryz.underlying291 (k n) (.int .u8 ((aC R n).length:Nat));have hy0:=hx0.turn hoth (by omega);have hy1:=hx1.turn hoth (by omega);have hB2:=hB1.trans (hbel w.heap.size (by omega));have hlk:look (k n) (oh k (aC R n))=none:=HL.out;rw[jJ _ _ _ hlk,←yY] at hm2;have hc:=(hy1.cell n).trans (dG _ n hlt);have hf:=hy1.free n;have hconv:=kM (aC R n).length (by omega); clear hoth hbel hsz2 hlk))
    go_roundw
    case rel =>
     refine⟨n+1,hlt,by go_num,hy0.other _ _ (by simp),?_,?_,by go_grown⟩
     ·have:=hy1.set n (.int .u8 ((aC R n).length:Nat))
      rw[o9,bY (g:=fun b=>if b<n+1 then aT R b else 0) (lY HN.out)] at this
      exact this
     ·rw[HE.out];exact hm2.other _ _ (by simp)
    case measure=>simp[intOf];omega
  ·obtain rfl:n=256:=by omega
   have hlen1:=hm.uK Tryz.underlying291 3 _ (kT k (aC R 256))
   rw[bY (g:=aT R) (fun i hi=>if_pos hi)] at hb1
   go_wp2_with (first | (refine wpList_load_row rfl 22 (.tmp 4) rfl (w.heap.size+1) rfl _ _ _ _ hb1 Tryz.underlying22 rfl (aK _) ?_) | (refine wpList_store_row rfl 22 (.tmp 2) (.tmp 35) rfl w.heap.size _ rfl rfl _ _ hb0 (aK _) (by rw[aU,aU]) (eu _) ?_))
   refine dN Tryz.results158 rfl rfl (hb0.setRow _) Tryz.underlying22 rfl (aK _) rfl ⟨?_,below_setRow hB (Nat.le_refl _) _⟩
   rw[jK];rfl
end
section
open Go.RowKit
theorem QU:o7 Tryz.prog 79 (uZ .i64):=by
 obtain⟨i,hi,_,hs,_⟩:=info_parts (P:=Tryz.prog) (e:=3) (z:=.int .i64 0) (size:=1) (bytes:=8) (by kernel_rfl)
 exact J5 Tryz.underlying79 Tryz.underlying3 hi (by kernel_rfl) hs
theorem ZJ(k:Nat→Int×Int)(p q:Value)(w:World)
  (hkey:∀ b:Nat,b<256→∀ w',Below w.heap.size w w'→Calls Tryz.prog 199 #[.int .i64 b,p,q] w' (bF w' (uZ .i64 (k b)))) :
  Calls Tryz.prog 198 #[.func (.func 199) #[] #[p,q]] w (bF w (.tuple #[.agg (aG (aT (aH k))),.int .i64 (iq (aH k):Nat)])):=by
 have E:=gY k
 have hz:=gZ
 have hmm:=@run_makeMap Tryz.prog
 have HK:=ah hkey
 clear hkey
 generalize hR:aH k=R at *
 have HR:=ah hR
 clear hR
 go_enter Tryz.func198,Tryz.ntmps198
 go_wp2
 go_loopw [11] (fun i wr=>∃ n:Nat,n≤256∧i=.int .i64 n∧Box wr w.heap.size (aG fun _=>0) 22∧Box wr (w.heap.size+1) (aG fun b=>if b<n then aT R b else 0) 22∧aP wr (w.heap.size+1+1) (uZ .i64) (oh k (aC R n))∧Below w.heap.size w wr) (fun i _=>256 - (intOf i).toNat)
 case atStart =>
  refine⟨0,Nat.zero_le _,rfl,((Box.new' rfl _ _).alloc _).alloc _,?_,?_,by go_grown⟩
  ·rw[bY (g:=fun _=>0) (fun i _=>by simp)];exact(Box.new' (World.size_alloc _ _).symm _ _).alloc _
  ·rw[zf];refine aP.new' ?_ _;simp
 case round =>
  obtain⟨n,hn,rfl,hb0,hb1,hm,hB⟩:=hrel
  by_cases hlt:n<256
  ·have hlook:=yZ k n (aC R n)
   rw[HR.out] at hlook
   have hlen:=gU R n
   cases hany:(aC R n).any (R n) with
   | true =>
    obtain⟨e1,e2⟩:=DI E.refl hlt hany
    rw[e2] at hlook
    have HL:=ah hlook
    have HE:=ah e1
    clear hlook e1 e2 hany
    go_wp2_with (go_at_call 199;go_must (refine(HK.out n hlt _ hB).mono ?_;rintro e w1 ⟨rfl,hb⟩;have hB1:=Below.alloc (hB.trans (hb.mono hB.size)) (by have:=hb0.lt;have:=hb.size;omega) (.cells #[.int .i64 (k n).1,.int .i64 (k n).2] 79);have hx0:=(hb0.kept hb).alloc (.cells #[.int .i64 (k n).1,.int .i64 (k n).2] 79);have hx1:=(hb1.kept hb).alloc (.cells #[.int .i64 (k n).1,.int .i64 (k n).2] 79);have hm1:=(hm.kept hb).alloc (.cells #[.int .i64 (k n).1,.int .i64 (k n).2] 79);have hrun:=hm1.nS QU Tryz.underlying314 (Tryz.zeroValue5 _) (k n);rw[HL.out] at hrun;have hc:=(hx1.cell n).trans (dG _ n hlt);have hf:=hx1.free n))
    go_roundw
    case rel =>
     refine⟨n+1,hlt,by go_num,hx0.other _ _ (by simp),?_,?_,by go_grown⟩
     ·have:=hx1.set n (.int .u8 (aT R n:Nat))
      rw[o9,bY (g:=fun b=>if b<n+1 then aT R b else 0) (lY rfl)] at this
      exact this
     ·rw[HE.out];exact hm1.other _ _ (by simp)
    case measure=>simp[intOf];omega
   | false =>
    obtain⟨e1,e2⟩:=DF E.refl hlt hany
    rw[uM hany] at hlook
    have HL:=ah hlook
    have HE:=ah e1
    have HN:=ah e2
    clear hlook e1 e2 hany
    go_wp2_with (go_at_call 199;go_must (refine(HK.out n hlt _ hB).mono ?_;rintro e w1 ⟨rfl,hb⟩;have hB1:=Below.alloc (hB.trans (hb.mono hB.size)) (by have:=hb0.lt;have:=hb.size;omega) (.cells #[.int .i64 (k n).1,.int .i64 (k n).2] 79);have hx0:=(hb0.kept hb).alloc (.cells #[.int .i64 (k n).1,.int .i64 (k n).2] 79);have hx1:=(hb1.kept hb).alloc (.cells #[.int .i64 (k n).1,.int .i64 (k n).2] 79);have hm1:=(hm.kept hb).alloc (.cells #[.int .i64 (k n).1,.int .i64 (k n).2] 79);have hrun:=hm1.nS QU Tryz.underlying314 (Tryz.zeroValue5 _) (k n);rw[HL.out] at hrun;have hlen1:=hm1.uK Tryz.underlying314 3 _ (kT k (aC R n));obtain⟨w2,hput,hm2,hoth,hsz2,hbel⟩:=hm1.nD QU Tryz.underlying314 (k n) (.int .u8 ((aC R n).length:Nat));have hy0:=hx0.turn hoth (by omega);have hy1:=hx1.turn hoth (by omega);have hB2:=hB1.trans (hbel w.heap.size (by omega));have hlk:look (k n) (oh k (aC R n))=none:=HL.out;rw[jJ _ _ _ hlk,←yY] at hm2;have hc:=(hy1.cell n).trans (dG _ n hlt);have hf:=hy1.free n;have hconv:=kM (aC R n).length (by omega);have an0:=((Box.new w1 #[.int .i64 (k n).1,.int .i64 (k n).2] 79).turn hoth (by have:=hm.lt;have:=hb.size;omega)).cell 0;have an1:=((Box.new w1 #[.int .i64 (k n).1,.int .i64 (k n).2] 79).turn hoth (by have:=hm.lt;have:=hb.size;omega)).cell 1;clear hoth hbel hsz2 hlk))
    go_roundw
    case rel =>
     refine⟨n+1,hlt,by go_num,hy0.other _ _ (by simp),?_,?_,by go_grown⟩
     ·have:=hy1.set n (.int .u8 ((aC R n).length:Nat))
      rw[o9,bY (g:=fun b=>if b<n+1 then aT R b else 0) (lY HN.out)] at this
      exact this
     ·rw[HE.out];exact hm2.other _ _ (by simp)
    case measure=>simp[intOf];omega
  ·obtain rfl:n=256:=by omega
   have hlen1:=hm.uK Tryz.underlying314 3 _ (kT k (aC R 256))
   rw[bY (g:=aT R) (fun i hi=>if_pos hi)] at hb1
   go_wp2_with (first | (refine wpList_load_row rfl 22 (.tmp 4) rfl (w.heap.size+1) rfl _ _ _ _ hb1 Tryz.underlying22 rfl (aK _) ?_) | (refine wpList_store_row rfl 22 (.tmp 2) (.tmp 35) rfl w.heap.size _ rfl rfl _ _ hb0 (aK _) (by rw[aU,aU]) (eu _) ?_))
   refine dN Tryz.results198 rfl rfl (hb0.setRow _) Tryz.underlying22 rfl (aK _) rfl ⟨?_,below_setRow hB (Nat.le_refl _) _⟩
   rw[jK];rfl
theorem QV:o7 Tryz.prog 194 (uZ .u8):=by
 obtain⟨i,hi,_,hs,_⟩:=info_parts (P:=Tryz.prog) (e:=5) (z:=.int .u8 0) (size:=1) (bytes:=1) (by kernel_rfl)
 exact J5 Tryz.underlying194 Tryz.underlying5 hi (by kernel_rfl) hs
theorem ZK(k:Nat→Int×Int)(p q:Value)(w:World)
  (hkey:∀ b:Nat,b<256→∀ w',Below w.heap.size w w'→Calls Tryz.prog 117 #[.int .i64 b,p,q] w' (bF w' (uZ .u8 (k b)))) :
  Calls Tryz.prog 116 #[.func (.func 117) #[] #[p,q]] w (bF w (.tuple #[.agg (aG (aT (aH k))),.int .i64 (iq (aH k):Nat)])):=by
 have E:=gY k
 have hz:=gZ
 have hmm:=@run_makeMap Tryz.prog
 have HK:=ah hkey
 clear hkey
 generalize hR:aH k=R at *
 have HR:=ah hR
 clear hR
 go_enter Tryz.func116,Tryz.ntmps116
 go_wp2
 go_loopw [11] (fun i wr=>∃ n:Nat,n≤256∧i=.int .i64 n∧Box wr w.heap.size (aG fun _=>0) 22∧Box wr (w.heap.size+1) (aG fun b=>if b<n then aT R b else 0) 22∧aP wr (w.heap.size+1+1) (uZ .u8) (oh k (aC R n))∧Below w.heap.size w wr) (fun i _=>256 - (intOf i).toNat)
 case atStart =>
  refine⟨0,Nat.zero_le _,rfl,((Box.new' rfl _ _).alloc _).alloc _,?_,?_,by go_grown⟩
  ·rw[bY (g:=fun _=>0) (fun i _=>by simp)];exact(Box.new' (World.size_alloc _ _).symm _ _).alloc _
  ·rw[zf];refine aP.new' ?_ _;simp
 case round =>
  obtain⟨n,hn,rfl,hb0,hb1,hm,hB⟩:=hrel
  by_cases hlt:n<256
  ·have hlook:=yZ k n (aC R n)
   rw[HR.out] at hlook
   have hlen:=gU R n
   cases hany:(aC R n).any (R n) with
   | true =>
    obtain⟨e1,e2⟩:=DI E.refl hlt hany
    rw[e2] at hlook
    have HL:=ah hlook
    have HE:=ah e1
    clear hlook e1 e2 hany
    go_wp2_with (go_at_call 117;go_must (refine(HK.out n hlt _ hB).mono ?_;rintro e w1 ⟨rfl,hb⟩;have hB1:=Below.alloc (hB.trans (hb.mono hB.size)) (by have:=hb0.lt;have:=hb.size;omega) (.cells #[.int .u8 (k n).1,.int .u8 (k n).2] 194);have hx0:=(hb0.kept hb).alloc (.cells #[.int .u8 (k n).1,.int .u8 (k n).2] 194);have hx1:=(hb1.kept hb).alloc (.cells #[.int .u8 (k n).1,.int .u8 (k n).2] 194);have hm1:=(hm.kept hb).alloc (.cells #[.int .u8 (k n).1,.int .u8 (k n).2] 194);have hrun:=hm1.nS QV Tryz.underlying254 (Tryz.zeroValue5 _) (k n);rw[HL.out] at hrun;have hc:=(hx1.cell n).trans (dG _ n hlt);have hf:=hx1.free n))
    go_roundw
    case rel =>
     refine⟨n+1,hlt,by go_num,hx0.other _ _ (by simp),?_,?_,by go_grown⟩
     ·have:=hx1.set n (.int .u8 (aT R n:Nat))
      rw[o9,bY (g:=fun b=>if b<n+1 then aT R b else 0) (lY rfl)] at this
      exact this
     ·rw[HE.out];exact hm1.other _ _ (by simp)
    case measure=>simp[intOf];omega
   | false =>
    obtain⟨e1,e2⟩:=DF E.refl hlt hany
    rw[uM hany] at hlook
    have HL:=ah hlook
    have HE:=ah e1
    have HN:=ah e2
    clear hlook e1 e2 hany
    go_wp2_with (go_at_call 117;go_must (refine(HK.out n hlt _ hB).mono ?_;rintro e w1 ⟨rfl,hb⟩;have hB1:=Below.alloc (hB.trans (hb.mono hB.size)) (by have:=hb0.lt;have:=hb.size;omega) (.cells #[.int .u8 (k n).1,.int .u8 (k n).2] 194);have hx0:=(hb0.kept hb).alloc (.cells #[.int .u8 (k n).1,.int .u8 (k n).2] 194);have hx1:=(hb1.kept hb).alloc (.cells #[.int .u8 (k n).1,.int .u8 (k n).2] 194);have hm1:=(hm.kept hb).alloc (.cells #[.int .u8 (k n).1,.int .u8 (k n).2] 194);have hrun:=hm1.nS QV Tryz.underlying254 (Tryz.zeroValue5 _) (k n);rw[HL.out] at hrun;have hlen1:=hm1.uK Tryz.underlying254 3 _ (kT k (aC R n));obtain⟨w2,hput,hm2,hoth,hsz2,hbel⟩:=hm1.nD QV Tryz.underlying254 (k n) (.int .u8 ((aC R n).length:Nat));have hy0:=hx0.turn hoth (by omega);have hy1:=hx1.turn hoth (by omega);have hB2:=hB1.trans (hbel w.heap.size (by omega));have hlk:look (k n) (oh k (aC R n))=none:=HL.out;rw[jJ _ _ _ hlk,←yY] at hm2;have hc:=(hy1.cell n).trans (dG _ n hlt);have hf:=hy1.free n;have hconv:=kM (aC R n).length (by omega);have an0:=((Box.new w1 #[.int .u8 (k n).1,.int .u8 (k n).2] 194).turn hoth (by have:=hm.lt;have:=hb.size;omega)).cell 0;have an1:=((Box.new w1 #[.int .u8 (k n).1,.int .u8 (k n).2] 194).turn hoth (by have:=hm.lt;have:=hb.size;omega)).cell 1;clear hoth hbel hsz2 hlk))
    go_roundw
    case rel =>
     refine⟨n+1,hlt,by go_num,hy0.other _ _ (by simp),?_,?_,by go_grown⟩
     ·have:=hy1.set n (.int .u8 ((aC R n).length:Nat))
      rw[o9,bY (g:=fun b=>if b<n+1 then aT R b else 0) (lY HN.out)] at this
      exact this
     ·rw[HE.out];exact hm2.other _ _ (by simp)
    case measure=>simp[intOf];omega
  ·obtain rfl:n=256:=by omega
   have hlen1:=hm.uK Tryz.underlying254 3 _ (kT k (aC R 256))
   rw[bY (g:=aT R) (fun i hi=>if_pos hi)] at hb1
   go_wp2_with (first | (refine wpList_load_row rfl 22 (.tmp 4) rfl (w.heap.size+1) rfl _ _ _ _ hb1 Tryz.underlying22 rfl (aK _) ?_) | (refine wpList_store_row rfl 22 (.tmp 2) (.tmp 35) rfl w.heap.size _ rfl rfl _ _ hb0 (aK _) (by rw[aU,aU]) (eu _) ?_))
   refine dN Tryz.results116 rfl rfl (hb0.setRow _) Tryz.underlying22 rfl (aK _) rfl ⟨?_,below_setRow hB (Nat.le_refl _) _⟩
   rw[jK];rfl
end
section
open Go.RowKit
def RL(l:List aF)(b c:Nat):Bool:=l.all fun s=>mem s b==mem s c
theorem Nk(l:List aF):su (RL l):=by
 refine⟨fun b=>by simp[RL],fun{b c} h=>?_,fun{b c d} h k=>?_⟩ <;> simp only[RL,List.all_eq_true,beq_iff_eq] at *
 ·exact fun s hs=>(h s hs).symm
 ·exact fun s hs=>(h s hs).trans (k s hs)
theorem Nl(l:List aF)(s:aF)(b c:Nat):RL (l++[s]) b c=(RL l b c&&(mem s b==mem s c)):=by simp[RL]
def yt(R:Nat→Nat→Bool)(s:aF)(b:Nat):Int×Int:=((aT R b:Nat),if mem s b then 1 else 0)
theorem Hw{R:Nat→Nat→Bool}(E:su R)(s:aF){b c:Nat}(hb:b<256)(hc:c<256):aH (yt R s) b c=(R b c&&(mem s b==mem s c)):=by
 rw[Bool.eq_iff_iff]
 simp only[aH,yt,decide_eq_true_eq,Prod.mk.injEq,Bool.and_eq_true,beq_iff_eq]
 rw[show(((aT R b:Nat):Int)=((aT R c:Nat):Int))↔aT R b=aT R c by omega,CG E hb hc]
 cases mem s b <;> cases mem s c <;> simp
theorem ZL(b:Nat)(w:World):Calls Tryz.prog 197 #[.int .i64 b] w (bF w (.bool true)):=by
 go_enter Tryz.func197,Tryz.ntmps197
 go_wp2
 go_ret
 exact⟨rfl,by go_grown⟩
theorem ZM(R:Nat→Nat→Bool)(E:su R)(s:aF)(p q b:Nat)(w:World)(hb:b<256)(hp:Box w p (dZ s) 113)(hq:Box w q (aG (aT R)) 22) :
  Calls Tryz.prog 199 #[.int .i64 b,.pointer (some ⟨p,0,none⟩),.pointer (some ⟨q,0,none⟩)] w (bF w (uZ .i64 (yt R s b))):=by
 obtain⟨⟨r0,r1,r2,r3⟩,_⟩:=hp.uy
 have hlt:=J6 E.refl hb
 have l1:=hp.lt
 have l2:=hq.lt
 have hwr:=kM b hb
 cases hm:mem s b with
 | true =>
  have HM:=ah hm
  clear hm
  go_enter Tryz.func199,Tryz.ntmps199
  go_wp2_with (go_at_call 200;go_must (refine(Jb _ _ _ hb).mono ?_;rintro e w1 ⟨rfl,hB⟩;rw[HM.out];have hc1:=(((hq.alloc _).kept hB).cell b).trans (dG _ b hb);have hx0:=(Box.new _ _ _).kept hB;have hx1:=hx0.cell 0;have hx2:=hx0.cell 1;have hx3:=hx0.free 0;have hx4:=hx0.free 1))
  refine eH Tryz.results199 rfl ((hx0.set 0 _).set 1 _) Tryz.underlying79 rfl (by kernel_rfl) rfl ⟨?_,by have hB1:=((Below.refl w.heap.size w).alloc (Nat.le_refl _) _).trans (hB.mono (by simp));go_grown⟩
  unfold yt;rw[HM.out];rfl
 | false =>
  have HM:=ah hm
  clear hm
  go_enter Tryz.func199,Tryz.ntmps199
  go_wp2_with (go_at_call 200;go_must (refine(Jb _ _ _ hb).mono ?_;rintro e w1 ⟨rfl,hB⟩;rw[HM.out];have hc1:=(((hq.alloc _).kept hB).cell b).trans (dG _ b hb);have hx0:=(Box.new _ _ _).kept hB;have hx1:=hx0.cell 0;have hx2:=hx0.cell 1;have hx3:=hx0.free 0;have hx4:=hx0.free 1))
  refine eH Tryz.results199 rfl ((hx0.set 0 _).set 1 _) Tryz.underlying79 rfl (by kernel_rfl) rfl ⟨?_,by have hB1:=((Below.refl w.heap.size w).alloc (Nat.le_refl _) _).trans (hB.mono (by simp));go_grown⟩
  unfold yt;rw[HM.out];rfl
theorem acX(a:Option Addr)(cap:Nat)(l:List aF)(w:World)(h:au w (.slice a l.length cap) 4 encS l) :
  Calls Tryz.prog 155 #[.slice a l.length cap] w (bF w (.tuple #[.agg (aG (aT (RL l))),.int .i64 (iq (RL l):Nat)])):=by
 obtain⟨b,o,hlen,hcap,hcap',ha,hbl,hcell⟩:=h.sets
 clear hlen h hbl
 have hz:=gZ
 have HC:=ah hcell
 clear hcell
 go_enter Tryz.func155,Tryz.ntmps155
 go_wp2_with (first | (refine dW rfl 22 (.tmp 4) (.tmp 11) rfl _ _ rfl rfl rfl (aK _) (by rw[aU,aU]) (eu _) ?_) | (go_at_call 196;go_must (refine(UU (fun _=>true) _ (fun b hb w' _=>ZL b w')).mono ?_;rintro e w1 ⟨rfl,hB⟩)))
 have hx0:=(Box.new' (w:=w) rfl (aG fun _=>0) 22).kept hB
 have hB1:=((Below.refl w.heap.size w).alloc (Nat.le_refl _) _).trans (hB.mono (by simp))
 have hsz:w.heap.size<w1.heap.size:=hx0.lt
 have e0:aG (aT (aH fun _=>true))=aG (aT (RL [])):=bY fun i hi=>DJ (fun _ _ _ _=>by simp[aH,RL]) hi
 have e1:iq (aH fun _=>true)=iq (RL []):=DK (fun _ _ _ _=>by simp[aH,RL])
 rw[e0,e1]
 clear e0 e1
 generalize hq:w1.heap.size=q
 go_loopw [5,15] (fun n i wr=>∃ j:Nat,j≤l.length∧i=.int .i64 j∧n=.int .i64 (iq (RL (l.take j)):Nat)∧Box wr w.heap.size (aG fun _=>0) 22∧Box wr q (aG (aT (RL (l.take j)))) 22∧Below w.heap.size w wr) (fun _ i _=>l.length - (intOf i).toNat)
 case atStart =>
  subst hq
  exact⟨0,Nat.zero_le _,rfl,rfl,hx0.alloc _,Box.new _ _ _,by go_grown⟩
 case round =>
  obtain⟨j,hj,rfl,rfl,hb0,hb1,hB2⟩:=hrel
  by_cases hlt:j<l.length
  ·obtain rfl:=ha j hlt
   obtain⟨c0,c1,c2,c3⟩:=HC.out j hlt wr hB2
   have e2:l.take (j+1)=l.take j++[l[j]]:=List.take_succ_eq_append_getElem hlt
   have HE:=ah e2
   clear e2 ha
   generalize l[j]=s at *
   have hR:=Nk (l.take j)
   have XO:=hb0.lt
   have hb1':=hb1.lt
   go_wp2_with (first | (refine wpList_load_row rfl 22 (.tmp 4) rfl q rfl _ _ _ _ (hb1.alloc _) Tryz.underlying22 rfl (aK _) ?_) | (refine dW rfl 22 (.tmp 8) (.tmp 19) rfl _ _ rfl rfl (by simp) (aK _) (by rw[aU,aU]) (eu _) ?_) | (refine wpList_store_row rfl 22 (.tmp 4) (.tmp 23) rfl q _ rfl rfl _ _ hx1 (aK _) (by rw[aU,aU]) (eu _) ?_) | (go_at_call 198;go_must (refine(ZJ (yt (RL (l.take j)) s) _ _ _ (fun b hb w' hB'=>ZM (RL (l.take j)) hR s _ _ b w' hb (((Box.new' rfl _ _).alloc _).kept hB') ((Box.new' (World.size_alloc _ _).symm _ _).kept hB'))).mono ?_;rintro e w2 ⟨rfl,hB3⟩;have hx0:=((hb0.alloc _).alloc _).kept hB3;have hx1:=((hb1.alloc _).alloc _).kept hB3;have hB4:=((hB2.alloc (Nat.le_of_lt XO) _).alloc (by simp;omega) _).trans (hB3.mono (by simp;omega)))))
   have eA:aG (aT (aH (yt (RL (l.take j)) s)))=aG (aT (RL (l.take (j+1)))):=bY fun i hi=>DJ (fun b c hb hc=>by rw[Hw hR s hb hc,HE.out,Nl]) hi
   have eB:iq (aH (yt (RL (l.take j)) s))=iq (RL (l.take (j+1))):=DK (fun b c hb hc=>by rw[Hw hR s hb hc,HE.out,Nl])
   rw[eA,eB]
   go_roundw
   case rel=>exact⟨j+1,hlt,by go_num,rfl,hx0.setRow_other _ (by omega),hx1.setRow _,below_setRow hB4 (by omega) _⟩
   case measure=>simp[intOf];omega
  ·obtain rfl:j=l.length:=by omega
   rw[List.take_length] at hb1 ⊢
   go_wp2_with (first | (refine wpList_load_row rfl 22 (.tmp 4) rfl q rfl _ _ _ _ hb1 Tryz.underlying22 rfl (aK _) ?_) | (refine wpList_store_row rfl 22 (.tmp 2) (.tmp 26) rfl w.heap.size _ rfl rfl _ _ hb0 (aK _) (by rw[aU,aU]) (eu _) ?_))
   exact dN Tryz.results155 rfl rfl (hb0.setRow _) Tryz.underlying22 rfl (aK _) rfl ⟨rfl,below_setRow hB2 (Nat.le_refl _) _⟩
end
section
open Go.RowKit
def aY(f:Nat→Nat)(b:Nat):Int:=(f b:Nat)
theorem UW(f:Nat→Nat)(p b:Nat)(w:World)(hb:b<256)(hp:Box w p (aG f) 22) :
  Calls Tryz.prog 159 #[.int .i64 b,.pointer (some ⟨p,0,none⟩)] w (bF w (.int .u8 (aY f b))):=by
 have hc:=(hp.cell b).trans (dG _ b hb)
 go_enter Tryz.func159,Tryz.ntmps159
 go_wp2
 go_ret
 exact⟨rfl,by go_grown⟩
theorem DU(f:Nat→Nat)(w:World) :
  Calls Tryz.prog 112 #[.agg (aG f)] w (bF w (.tuple #[.agg (aG (aT (aH (aY f)))),.int .i64 (iq (aH (aY f)):Nat)])):=by
 have hz:=gZ
 go_enter Tryz.func112,Tryz.ntmps112
 go_wp2_with (first | (refine wpList_store_row rfl 22 (.tmp 2) (.tmp 6) rfl _ _ rfl rfl _ _ hx1 (aK _) (iF _ _) (eu _) ?_) | (go_at_call 158;go_must (refine(ZI (aY f) _ _ (fun b hb w' hB'=>UW f w.heap.size b w' hb (((Box.new' rfl _ _).alloc _).kept hB'))).mono ?_;rintro e w1 ⟨rfl,hB⟩;have hx1:=(Box.new' (w:=w.alloc (.cells (aG f) 22)) (World.size_alloc _ _).symm (aG fun _=>0) 22).kept hB)))
 have hB1:=(((Below.refl w.heap.size w).alloc (Nat.le_refl _) (.cells (aG f) 22)).alloc (by simp) (.cells (aG fun _=>0) 22)).trans (hB.mono (by simp;omega))
 exact dN Tryz.results112 rfl rfl (hx1.setRow _) Tryz.underlying22 rfl (aK _) rfl ⟨rfl,below_setRow hB1 (by simp) _⟩
def iV(f g:Nat→Nat)(b:Nat):Int×Int:=((f b:Nat),(g b:Nat))
theorem UY(f g:Nat→Nat)(p q b:Nat)(w:World)(hb:b<256)(hp:Box w p (aG f) 22)(hq:Box w q (aG g) 22) :
  Calls Tryz.prog 117 #[.int .i64 b,.pointer (some ⟨p,0,none⟩),.pointer (some ⟨q,0,none⟩)] w (bF w (uZ .u8 (iV f g b))):=by
 go_enter Tryz.func117,Tryz.ntmps117
 go_wp2
 have hp1:=hp.alloc (.cells #[.int .u8 0,.int .u8 0] 194)
 have hq1:=hq.alloc (.cells #[.int .u8 0,.int .u8 0] 194)
 have hx:=Box.new w #[.int .u8 0,.int .u8 0] 194
 have hB:=(Below.refl w.heap.size w).alloc (Nat.le_refl _) (.cells #[.int .u8 0,.int .u8 0] 194)
 generalize w.alloc (.cells #[.int .u8 0,.int .u8 0] 194)=W at *
 have hc:=(hp1.cell b).trans (dG _ b hb)
 have hd:=(hq1.cell b).trans (dG _ b hb)
 have x0:=hx.cell 0
 have x1:=hx.cell 1
 have y0:=hx.free 0
 have y1:=hx.free 1
 have hbI:(b:Int)<256:=by omega
 have hbJ:(0:Int)≤(b:Int):=by omega
 go_region
 go_wp2
 exact eH Tryz.results117 rfl ((hx.drew.set 0 _).set 1 _) Tryz.underlying194 rfl (by kernel_rfl) rfl ⟨rfl,by go_grown⟩
theorem XP(f g:Nat→Nat)(w:World) :
  Calls Tryz.prog 71 #[.agg (aG f),.agg (aG g)] w (bF w (.tuple #[.agg (aG (aT (aH (iV f g)))),.int .i64 (iq (aH (iV f g)):Nat)])):=by
 have hz:=gZ
 go_enter Tryz.func71,Tryz.ntmps71
 go_wp2_with (first | (refine wpList_store_row rfl 22 (.tmp 4) (.tmp 8) rfl _ _ rfl rfl _ _ hx1 (aK _) (iF _ _) (eu _) ?_) | (go_at_call 116;go_must (refine(ZK (iV f g) _ _ _ (fun b hb w' hB'=>UY f g w.heap.size (w.heap.size+1) b w' hb ((((Box.new' rfl _ _).alloc _).alloc _).kept hB') (((Box.new' (World.size_alloc _ _).symm _ _).alloc _).kept hB'))).mono ?_;rintro e w1 ⟨rfl,hB⟩;have hx1:=(Box.new' (w:=(w.alloc (.cells (aG f) 22)).alloc (.cells (aG g) 22)) (b:=w.heap.size+1+1) (by rw[World.size_alloc,World.size_alloc]) (aG fun _=>0) 22).kept hB)))
 have hB1:=((((Below.refl w.heap.size w).alloc (Nat.le_refl _) (.cells (aG f) 22)).alloc (by go_size) (.cells (aG g) 22)).alloc (by go_size) (.cells (aG fun _=>0) 22)).trans (hB.mono (by go_size))
 exact dN Tryz.results71 rfl rfl (hx1.setRow _) Tryz.underlying22 rfl (aK _) rfl ⟨rfl,below_setRow hB1 (by omega) _⟩
theorem UZ(f:Nat→Nat)(n:Int)(w:World) :
  Calls Tryz.prog 67 #[.agg (aG f),.int .i64 n] w (bF w (.bool (jR (aT (aH (aY f))) f&&((iq (aH (aY f)):Nat)==n)))):=by
 have hz:=gZ
 have hq:=EW (P:=Tryz.prog) (t:=22) (e:=5) Tryz.underlying22 Tryz.underlying5 (by kernel_rfl) (aT (aH (aY f))) f
 have hsz:∀ w1:World,Below (w.alloc (.cells (aG f) 22)).heap.size (w.alloc (.cells (aG f) 22)) w1→Below w.heap.size w (w1.alloc (.cells (aG (aT (aH (aY f)))) 22)):=fun w1 hB=>(((Below.refl w.heap.size w).alloc (Nat.le_refl _) _).trans (hB.mono (by go_size))).alloc (by have:=hB.size;simp at this;omega) _
 have HS:=ah hsz
 clear hsz
 cases hs:jR (aT (aH (aY f))) f with
 | true =>
  rw[hs] at hq
  clear hs
  go_enter Tryz.func67,Tryz.ntmps67
  go_wp2_with (first | (refine wpList_load_row rfl 22 (.tmp 2) rfl _ rfl _ _ _ _ (Box.new _ _ _) Tryz.underlying22 rfl (aK _) ?_) | (refine dW rfl 22 (.tmp 5) (.tmp 10) rfl _ _ rfl rfl rfl (aK _) (iF _ _) (eu _) ?_) | (go_at_call 112;go_must (refine(DU f _).mono ?_;rintro e w1 ⟨rfl,hB⟩;have hx0:=(Box.new w (aG f) 22).kept hB)) | (refine wpList_load_row rfl 22 (.tmp 5) rfl _ rfl _ _ _ _ (Box.new _ _ _) Tryz.underlying22 rfl (aK _) ?_) | (refine wpList_load_row rfl 22 (.tmp 2) rfl _ rfl _ _ _ _ (hx0.alloc _) Tryz.underlying22 rfl (aK _) ?_))
  go_ret
  exact⟨rfl,HS.out _ hB⟩
 | false =>
  rw[hs] at hq
  clear hs
  go_enter Tryz.func67,Tryz.ntmps67
  go_wp2_with (first | (refine wpList_load_row rfl 22 (.tmp 2) rfl _ rfl _ _ _ _ (Box.new _ _ _) Tryz.underlying22 rfl (aK _) ?_) | (refine dW rfl 22 (.tmp 5) (.tmp 10) rfl _ _ rfl rfl rfl (aK _) (iF _ _) (eu _) ?_) | (go_at_call 112;go_must (refine(DU f _).mono ?_;rintro e w1 ⟨rfl,hB⟩;have hx0:=(Box.new w (aG f) 22).kept hB)) | (refine wpList_load_row rfl 22 (.tmp 5) rfl _ rfl _ _ _ _ (Box.new _ _ _) Tryz.underlying22 rfl (aK _) ?_) | (refine wpList_load_row rfl 22 (.tmp 2) rfl _ rfl _ _ _ _ (hx0.alloc _) Tryz.underlying22 rfl (aK _) ?_))
  go_ret
  exact⟨rfl,HS.out _ hB⟩
end
end Go.Proofs.YtengfapcaaacaaaGreatDoor
