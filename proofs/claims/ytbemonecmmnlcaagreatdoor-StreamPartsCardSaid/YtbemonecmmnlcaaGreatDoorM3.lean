/- The texts of S3, in few letters (mini.py). -/
import Derived.Test.YtbemonecmmnlcaaGreatDoorM2
import Derived.ShutString
import Derived.Deep.Slices
set_option linter.unusedVariables false
set_option linter.unusedSimpArgs false
namespace Go.Proofs.YtbemonecmmnlcaaGreatDoor
section
def nX(c:Nat):Nat→Nat
 | 0=>0
 | n+1=>c+256*nX c n
def jG(f:Nat→Nat):Nat→Nat→Nat
 | 0,_=>0
 | n+1,x=>f (x % 256)+256*jG f n (x / 256)
theorem YR(x y:Nat):x &&& y=(x % 256 &&& y % 256)+256*(x / 256 &&& y / 256):=by
 have h1:=Nat.and_mod_two_pow (a:=x) (b:=y) (n:=8)
 have h2:=Nat.and_div_two_pow (a:=x) (b:=y) (n:=8)
 have e:(2:Nat) ^ 8=256:=rfl
 rw[e] at h1 h2
 rw[←h1,←h2]
 omega
theorem zV(c:Nat)(hc:c<256)(n x:Nat):x &&& nX c (n+1)=(x % 256 &&& c)+256*(x / 256 &&& nX c n):=by
 rw[YR]
 simp only[nX]
 rw[show(c+256*nX c n) % 256=c by omega,show(c+256*nX c n) / 256=nX c n by omega]
def f1(b:Nat):Nat:=(b / 2 &&& 85)+(b &&& 85)
def f2(b:Nat):Nat:=(b / 4 &&& 51)+(b &&& 51)
def pop8(b:Nat):Nat:=(f2 (f1 b) / 16+f2 (f1 b)) % 16
theorem k1:∀ a,a<256→∀ e,e<2→(a / 2+128*e) &&& 85=a / 2 &&& 85:=by decide +kernel
theorem k2:∀ a,a<256→∀ e,e<4→(a / 4+64*e) &&& 51=a / 4 &&& 51:=by decide +kernel
theorem b1:∀ b,b<256→f1 b<256:=by decide +kernel
theorem b2:∀ b,b<256→f2 (f1 b)≤68∧f2 (f1 b) % 16≤4:=by decide +kernel
theorem b3:∀ b,b<256→pop8 b≤8∧pop8 b=((List.range 8).filter fun j=>b.testBit j).length:=by decide +kernel
theorem step1(n:Nat):∀ x,((x / 2) &&& nX 85 n)+(x &&& nX 85 n)=jG f1 n x:=by
 induction n with
 | zero=>intro x;simp[nX,jG]
 | succ n ih =>
  intro x
  rw[zV 85 (by decide),zV 85 (by decide)]
  have e1:x / 2 % 256=x % 256 / 2+128*(x / 256 % 2):=by omega
  have e2:x / 2 / 256=x / 256 / 2:=by omega
  rw[e1,e2,k1 _ (Nat.mod_lt _ (by decide)) _ (Nat.mod_lt _ (by decide))]
  have:=ih (x / 256)
  simp only[jG,f1]
  omega
theorem step2(n:Nat):∀ x,((x / 4) &&& nX 51 n)+(x &&& nX 51 n)=jG f2 n x:=by
 induction n with
 | zero=>intro x;simp[nX,jG]
 | succ n ih =>
  intro x
  rw[zV 51 (by decide),zV 51 (by decide)]
  have e1:x / 4 % 256=x % 256 / 4+64*(x / 256 % 4):=by omega
  have e2:x / 4 / 256=x / 256 / 4:=by omega
  rw[e1,e2,k2 _ (Nat.mod_lt _ (by decide)) _ (Nat.mod_lt _ (by decide))]
  have:=ih (x / 256)
  simp only[jG,f2]
  omega
theorem VJ(f g:Nat→Nat)(hg:∀ b,b<256→g b<256)(n:Nat):∀ x,jG f n (jG g n x)=jG (fun b=>f (g b)) n x:=by
 induction n with
 | zero=>intro x;rfl
 | succ n ih =>
  intro x
  have h:=hg (x % 256) (Nat.mod_lt _ (by decide))
  simp only[jG]
  rw[show(g (x % 256)+256*jG g n (x / 256)) % 256=g (x % 256) by omega,show(g (x % 256)+256*jG g n (x / 256)) / 256=jG g n (x / 256) by omega,ih]
theorem agV(a:Nat):a &&& 15=a % 16:=Nat.and_two_pow_sub_one_eq_mod a 4
theorem YS(h:Nat→Nat)(hh:∀ b,b<256→h b≤68∧h b % 16≤4)(n:Nat)(x:Nat):jG h n x % 16≤4:=by
 cases n with
 | zero=>simp[jG]
 | succ n=>have:=hh (x % 256) (Nat.mod_lt _ (by decide));simp only[jG];omega
theorem step3(h:Nat→Nat)(hh:∀ b,b<256→h b≤68∧h b % 16≤4)(n:Nat):∀ x,(jG h n x / 16+jG h n x) &&& nX 15 n=jG (fun b=>(h b / 16+h b) % 16) n x:=by
 induction n with
 | zero=>intro x;simp[nX,jG]
 | succ n ih =>
  intro x
  have h0:=hh (x % 256) (Nat.mod_lt _ (by decide))
  have hl:=YS h hh n (x / 256)
  have hi:=ih (x / 256)
  rw[zV 15 (by decide)]
  simp only[jG]
  generalize h (x % 256)=a at *
  generalize jG h n (x / 256)=r at *
  rw[agV]
  rw[show((a+256*r) / 16+(a+256*r)) / 256=r / 16+r by omega,hi]
  omega
theorem ku(n:Nat):∀ x,((List.range (8*n)).filter fun j=>x.testBit j).length=(match n with | 0=>0 | m+1=>((List.range 8).filter fun j=>(x % 256).testBit j).length+((List.range (8*m)).filter fun j=>(x / 256).testBit j).length):=by
 intro x
 cases n with
 | zero=>rfl
 | succ m =>
  simp only
  rw[show 8*(m+1)=8+8*m by omega,List.range_add,List.filter_append,List.length_append,List.filter_map,List.length_map]
  congr 1
  ·refine congrArg List.length (List.filter_congr fun j hj=>?_)
   have:=List.mem_range.1 hj
   rw[show(256:Nat)=2 ^ 8 from rfl,Nat.testBit_mod_two_pow];simp[this]
  ·refine congrArg List.length (List.filter_congr fun j hj=>?_)
   simp only[Function.comp]
   rw[show(256:Nat)=2 ^ 8 from rfl,Nat.testBit_div_two_pow,Nat.add_comm]
theorem VK(x:Nat):(iU x).length=pop8 (x % 256)+(pop8 (x / 256 % 256)+(pop8 (x / 256 / 256 % 256)+(pop8 (x / 256 / 256 / 256 % 256)+(pop8 (x / 256 / 256 / 256 / 256 % 256)+(pop8 (x / 256 / 256 / 256 / 256 / 256 % 256)+(pop8 (x / 256 / 256 / 256 / 256 / 256 / 256 % 256)+pop8 (x / 256 / 256 / 256 / 256 / 256 / 256 / 256 % 256))))))):=by
 have hb:=fun y=>(b3 (y % 256) (Nat.mod_lt y (by decide))).2
 unfold iU
 rw[show List.range 64=List.range (8*8) from rfl,ku 8];simp only
 rw[ku 7];simp only
 rw[ku 6];simp only
 rw[ku 5];simp only
 rw[ku 4];simp only
 rw[ku 3];simp only
 rw[ku 2];simp only
 rw[ku 1 (x / 256 / 256 / 256 / 256 / 256 / 256 / 256)];simp only
 simp only[hb]
 simp
def iM(x:Nat):Nat:=(x / 2 &&& 6148914691236517205)+(x &&& 6148914691236517205)
def kQ(x:Nat):Nat:=(x / 4 &&& 3689348814741910323)+(x &&& 3689348814741910323)
def uz(x:Nat):Nat:=(x / 16+x) &&& 1085102592571150095
theorem acI(x:Nat):uz (kQ (iM x))=jG pop8 8 x:=by
 unfold iM kQ uz
 rw[show 6148914691236517205=nX 85 8 from rfl,show 3689348814741910323=nX 51 8 from rfl,show 1085102592571150095=nX 15 8 from rfl,step1,step2,VJ f2 f1 b1,step3 _ b2]
 rfl
theorem agW(a b c T2 T3 x y:Nat)(ha:a≤8)(hb:b≤8)(hc:c≤8)(hx:x=a+256*(b+256*T2))(hy:y=b+256*(c+256*T3)):(x+y) / 65536=T2+T3:=by omega
theorem agX(l0 l1 l2 l3 t0 t1 t2 t3:Nat)(h0:l0≤134744072)(h1:l1≤134744072)(h2:l2≤134744072)(h3:l3≤134744072) :
  ((l0+4294967296*t0)+(l1+4294967296*t1)+((l2+4294967296*t2)+(l3+4294967296*t3))) / 4294967296=t0+t1+(t2+t3):=by omega
theorem low4(a b c d T:Nat)(ha:a≤8)(hb:b≤8)(hc:c≤8)(hd:d≤8):∃ l,a+256*(b+256*(c+256*(d+256*T)))=l+4294967296*T∧l≤134744072 :=
 ⟨a+256*b+65536*c+16777216*d,by omega,by omega⟩
theorem acJ(C U:Nat)(h:C≤64):(C+256*U) % 128=C:=by omega
theorem aiO(c0 c1 c2 c3 c4 c5 c6 c7 c:Nat)(g0:c0≤8)(g1:c1≤8)(g2:c2≤8)(g3:c3≤8)(g4:c4≤8)(g5:c5≤8)(g6:c6≤8)(g7:c7≤8)
  (hc:c=c0+256*(c1+256*(c2+256*(c3+256*(c4+256*(c5+256*(c6+256*(c7+256*0)))))))) :
  c≤578721382704613384∧((c+c / 256)+(c+c / 256) / 65536+((c+c / 256)+(c+c / 256) / 65536) / 4294967296) % 128=c0+(c1+(c2+(c3+(c4+(c5+(c6+c7)))))):=by
 have z:(0:Nat)=0+256*(0+256*(0+256*(0+256*0))):=rfl
 obtain⟨t7,h7⟩:∃ t,t=c7+256*0:=⟨_,rfl⟩
 rw[←h7] at hc
 obtain⟨t6,h6⟩:∃ t,t=c6+256*t7:=⟨_,rfl⟩
 rw[←h6] at hc
 obtain⟨t5,h5⟩:∃ t,t=c5+256*t6:=⟨_,rfl⟩
 rw[←h5] at hc
 obtain⟨t4,h4⟩:∃ t,t=c4+256*t5:=⟨_,rfl⟩
 rw[←h4] at hc
 obtain⟨t3,h3⟩:∃ t,t=c3+256*t4:=⟨_,rfl⟩
 rw[←h3] at hc
 obtain⟨t2,h2⟩:∃ t,t=c2+256*t3:=⟨_,rfl⟩
 rw[←h2] at hc
 obtain⟨t1,h1⟩:∃ t,t=c1+256*t2:=⟨_,rfl⟩
 rw[←h1] at hc
 have k7:t7≤8:=by omega
 have k6:t6≤2056:=by omega
 have k5:t5≤526344:=by omega
 have k4:t4≤134744072:=by omega
 have k3:t3≤34494482440:=by omega
 have k2:t2≤8830587504648:=by omega
 have k1:t1≤2260630401189896:=by omega
 have k0:c≤578721382704613384:=by omega
 have e1:c / 256=t1:=by omega
 have e2:(c+t1) / 65536=t2+t3:=agW c0 c1 c2 t2 t3 c t1 g0 g1 g2 (by rw[hc,h1]) (by rw[h1,h2])
 obtain⟨l0,a0,b0⟩:=low4 c0 c1 c2 c3 t4 g0 g1 g2 g3
 obtain⟨l1,a1,b1⟩:=low4 c1 c2 c3 c4 t5 g1 g2 g3 g4
 obtain⟨l2,a2,b2⟩:=low4 c2 c3 c4 c5 t6 g2 g3 g4 g5
 obtain⟨l3,a3,b3⟩:=low4 c3 c4 c5 c6 t7 g3 g4 g5 g6
 rw[←h3,←h2,←h1,←hc] at a0
 rw[←h4,←h3,←h2,←h1] at a1
 rw[←h5,←h4,←h3,←h2] at a2
 rw[←h6,←h5,←h4,←h3] at a3
 have e3:(c+t1+(t2+t3)) / 4294967296=t4+t5+(t6+t7):=by
  rw[a0,a1,a2,a3];exact agX l0 l1 l2 l3 t4 t5 t6 t7 b0 b1 b2 b3
 refine⟨k0,?_⟩
 rw[e1,e2,e3]
 clear a0 a1 a2 a3 b0 b1 b2 b3 e1 e2 e3 k0 k1 k2 k3 k4 k5 k6 k7 z
 have:c+t1+(t2+t3)+(t4+t5+(t6+t7))=(c0+(c1+(c2+(c3+(c4+(c5+(c6+c7)))))))+256*(t1+t2+t3+t4+t5+t6+t7):=by omega
 rw[this]
 exact acJ _ _ (by omega)
theorem YT(x:Nat):uz (kQ (iM x))≤578721382704613384∧((uz (kQ (iM x))+uz (kQ (iM x)) / 256)+(uz (kQ (iM x))+uz (kQ (iM x)) / 256) / 65536+((uz (kQ (iM x))+uz (kQ (iM x)) / 256)+(uz (kQ (iM x))+uz (kQ (iM x)) / 256) / 65536) / 4294967296) % 128=(iU x).length:=by
 rw[VK]
 have hb:=fun y=>(b3 (y % 256) (Nat.mod_lt y (by decide))).1
 refine aiO _ _ _ _ _ _ _ _ _ (hb _) (hb _) (hb _) (hb _) (hb _) (hb _) (hb _) (hb _) ?_
 rw[acI]
 simp only[jG]
end
section
open Go.RowKit
def fM(n s:Nat):List Nat:=(List.range n).filter fun i=>s.testBit i
def iV(n:Nat)(st:Nat×List Nat)(s:Nat):Nat×List Nat:=if s<n∧st.1.testBit s=false then (st.1 ||| 1 <<< s,st.2++[s]) else st
def oN(n:Nat)(goes:Nat→List Nat):Nat→Nat×List Nat→Nat
 | 0,st=>st.1
 | f+1,st=>match st.2.getLast? with
  | none=>st.1
  | some s=>oN n goes f ((goes s).foldl (iV n) (st.1,st.2.dropLast))
def dH(S k:Nat):Nat:=S >>> (64*k) % 18446744073709551616
def iH(m S:Nat):List Nat:=(List.range m).map (dH S)
theorem Ba(S k:Nat):dH S k<18446744073709551616:=Nat.mod_lt _ (by decide)
theorem qZ(S k j:Nat):(dH S k).testBit j=(decide (j<64)&&S.testBit (64*k+j)):=by
 unfold dH
 rw[show(18446744073709551616:Nat)=2 ^ 64 from rfl,Nat.testBit_mod_two_pow,Nat.testBit_shiftRight]
theorem Tv(m S:Nat):(iH m S).length=m:=by simp[iH]
theorem Hw(m S k:Nat)(h:k<(iH m S).length):(iH m S)[k]=dH S k:=by simp[iH]
theorem VL(S i k:Nat):dH (S ||| 1 <<< i) k=if k=i / 64 then dH S k ||| 1 <<< (i % 64) else dH S k:=by
 apply Nat.eq_of_testBit_eq
 intro j
 rw[qZ,Nat.testBit_or,Nat.one_shiftLeft,Nat.testBit_two_pow]
 split
 ·rename_i h
  subst h
  rw[Nat.testBit_or,qZ,Nat.one_shiftLeft,Nat.testBit_two_pow]
  by_cases hj:j<64
  ·have:(i=64*(i / 64)+j)↔(i % 64=j):=by omega
   simp[hj,this]
  ·have:¬ i % 64=j:=by omega
   simp[hj,this]
 ·rename_i h
  rw[qZ]
  by_cases hj:j<64
  ·have:¬ i=64*k+j:=by omega
   simp[hj,this]
  ·simp[hj]
theorem Tz(m S i:Nat):iH m (S ||| 1 <<< i)=(iH m S).set (i / 64) (dH S (i / 64) ||| 1 <<< (i % 64)):=by
 apply List.ext_getElem
 ·simp[iH]
 ·intro k h1 h2
  rw[Hw,List.getElem_set,Hw,VL]
  by_cases h:k=i / 64
  ·rw[if_pos h,if_pos h.symm,h]
  ·rw[if_neg h,if_neg fun e=>h e.symm]
theorem VN(n S i:Nat)(hi:i<n)(hS:S<2 ^ n):S ||| 1 <<< i<2 ^ n:=by
 apply Nat.or_lt_two_pow hS
 rw[Nat.one_shiftLeft]
 exact Nat.pow_lt_pow_right (by decide) hi
theorem TA(n m S:Nat)(h:n≤m)(hS:S<2 ^ n):fM m S=fM n S:=by
 unfold fM
 obtain⟨d,rfl⟩:∃ d,m=n+d:=⟨m - n,by omega⟩
 rw[List.range_add,List.filter_append]
 have:((List.range d).map (n+·)).filter (fun i=>S.testBit i)=[]:=List.filter_eq_nil_iff.2 fun x hx=>by
  obtain⟨y,_,rfl⟩:=List.mem_map.1 hx
  rw[Nat.testBit_lt_two_pow (Nat.lt_of_lt_of_le hS (Nat.pow_le_pow_right (by decide) (Nat.le_add_right _ _)))]
  simp
 rw[this,List.append_nil]
def uS(S:Nat):Nat→Nat→List Nat
 | _,0=>[]
 | i,f+1=>jq i (dH S i)++uS S (i+1) f
theorem TB(S i:Nat):((List.range 64).map (64*i+·)).filter (fun x=>S.testBit x)=jq i (dH S i):=by
 rw[List.filter_map]
 unfold jq iU
 congr 1
 refine List.filter_congr fun x hx=>?_
 rw[qZ];simp[List.mem_range.1 hx]
theorem EU(S:Nat):∀ (f i:Nat),uS S i f=((List.range (64*f)).map (64*i+·)).filter (fun x=>S.testBit x)
 | 0,i=>by simp[uS]
 | f+1,i=>by
  rw[uS,EU S f,←TB,show 64*(f+1)=64+64*f by omega,List.range_add,List.map_append,List.filter_append]
  congr 2
  rw[List.map_map]
  refine List.map_congr_left fun x _=>?_
  show 64*(i+1)+x=64*i+(64+x)
  omega
theorem TD(n m S:Nat)(h:n≤64*m)(hS:S<2 ^ n):fM n S=uS S 0 m:=by
 rw[←TA n _ S h hS,EU]
 simp[fM]
theorem CV{n S i:Nat}:i∈fM n S↔i<n∧S.testBit i=true:=by
 unfold fM;rw[List.mem_filter,List.mem_range]
theorem KI(n S:Nat):(fM n S).length≤n:=by
 have:=List.length_filter_le (fun i=>S.testBit i) (List.range n)
 simpa [fM] using this
theorem YU(n S:Nat)(hS:S<2 ^ n):(fM n S).foldl (fun T i=>T ||| 1 <<< i) 0=S:=by
 have key:∀ (l:List Nat) (T j:Nat),(l.foldl (fun T i=>T ||| 1 <<< i) T).testBit j=(T.testBit j||decide (j∈l)):=by
  intro l
  induction l with
  | nil=>intro T j;simp
  | cons a l ih =>
   intro T j
   rw[List.foldl_cons,ih,Nat.testBit_or,Nat.one_shiftLeft,Nat.testBit_two_pow]
   by_cases h:a=j
   ·subst h;simp
   ·have h':¬ j=a:=fun e=>h e.symm
    simp[h,h']
 apply Nat.eq_of_testBit_eq
 intro j
 rw[key,Nat.zero_testBit,Bool.false_or]
 by_cases hj:j<n
 ·rw[Bool.eq_iff_iff,decide_eq_true_eq,CV];simp[hj]
 ·have hp:2 ^ n≤2 ^ j:=Nat.pow_le_pow_right (by decide) (by omega)
  rw[Nat.testBit_lt_two_pow (by omega),decide_eq_false]
  rw[CV];omega
def xI:List UInt8→Nat
 | []=>0
 | b::l=>b.toNat+256*xI l
def lI(w i:Nat):UInt8:=UInt8.ofNat (w >>> (8*i))
def rX(w:Nat):List UInt8:=(List.range 8).map (lI w)
def qy:List Nat→Nat
 | []=>0
 | w::l=>w+18446744073709551616*qy l
def rY(S:Nat):Nat→Nat
 | 0=>0
 | n+1=>if dH S n=0 then rY S n else n+1
def F8(m S:Nat):List UInt8:=(iH (rY S m) S).flatMap rX
theorem EW:∀ (a b:List UInt8),xI (a++b)=xI a+256 ^ a.length*xI b
 | [],b=>by simp[xI]
 | x::a,b=>by
  rw[List.cons_append,xI,xI,EW a b,List.length_cons,Nat.pow_succ,Nat.mul_add]
  rw[Nat.mul_comm (256 ^ a.length) 256,Nat.mul_assoc];omega
theorem TF(w:Nat)(h:w<18446744073709551616):xI (rX w)=w:=by
 have e:rX w=[lI w 0,lI w 1,lI w 2,lI w 3,lI w 4,lI w 5,lI w 6,lI w 7]:=rfl
 have f:∀ i,(lI w i).toNat=w / 2 ^ (8*i) % 256:=fun i=>by
  unfold lI;rw[UInt8.toNat_ofNat',Nat.shiftRight_eq_div_pow]
 rw[e]
 simp only[xI,f]
 simp only[Nat.reduceMul,Nat.reducePow,Nat.pow_zero,Nat.div_one,Nat.mul_zero,Nat.add_zero]
 omega
theorem Hy:∀ (l:List Nat),(∀ x∈l,x<18446744073709551616)→xI (l.flatMap rX)=qy l
 | [],_=>rfl
 | w::l,h=>by
  rw[List.flatMap_cons,EW,TF w (h w (by simp)),qy,Hy l fun x hx=>h x (by simp[hx]),show(rX w).length=8 by simp[rX]]
theorem zB:∀ (a b:List Nat),qy (a++b)=qy a+18446744073709551616 ^ a.length*qy b
 | [],b=>by simp[qy]
 | x::a,b=>by
  rw[List.cons_append,qy,qy,zB a b,List.length_cons,Nat.pow_succ,Nat.mul_add]
  rw[Nat.mul_comm (18446744073709551616 ^ a.length) 18446744073709551616,Nat.mul_assoc];omega
theorem uT(n S:Nat):iH (n+1) S=iH n S++[dH S n]:=by unfold iH;rw[List.range_succ,List.map_append];rfl
theorem Nv(S:Nat):∀ m,qy (iH (rY S m) S)=qy (iH m S)
 | 0=>rfl
 | n+1=>by
  rw[rY]
  split
  ·rename_i h
   rw[Nv S n,uT,zB,h];simp[qy]
  ·rfl
theorem Hz(S:Nat):∀ m,qy (iH m S)=S % 18446744073709551616 ^ m
 | 0=>by simp[iH,qy,Nat.mod_one]
 | n+1=>by
  rw[uT,zB,Hz S n,Tv,qy,qy,Nat.mul_zero,Nat.add_zero,Nat.pow_succ,Nat.mod_mul]
  unfold dH
  rw[Nat.shiftRight_eq_div_pow,Nat.pow_mul]
theorem Nw(m S:Nat)(h:S<2 ^ (64*m)):xI (F8 m S)=S:=by
 unfold F8
 rw[Hy _ (fun x hx=>by
  obtain⟨k,_,rfl⟩:=List.mem_map.1 hx
  exact Ba _ _),Nv,Hz,Nat.mod_eq_of_lt]
 rw[Nat.pow_mul] at h;exact h
theorem YV{m S T:Nat}(hS:S<2 ^ (64*m))(hT:T<2 ^ (64*m))(h:F8 m S=F8 m T):S=T:=by
 rw[←Nw m S hS,h,Nw m T hT]
def lacks(n S:Nat):Nat:=((List.range n).filter fun i=>!S.testBit i).length
theorem VO(n S i:Nat)(hi:i<n)(h:S.testBit i=false):lacks n (S ||| 1 <<< i)+1=lacks n S:=by
 have tb:∀ j,(S ||| 1 <<< i).testBit j=(S.testBit j||decide (i=j)):=fun j=>by rw[Nat.testBit_or,Nat.one_shiftLeft,Nat.testBit_two_pow]
 unfold lacks
 obtain⟨d,rfl⟩:∃ d,n=i+1+d:=⟨n - (i+1),by omega⟩
 rw[List.range_add,List.range_succ]
 simp only[List.filter_append,List.length_append]
 have e1:(List.range i).filter (fun j=>!(S ||| 1 <<< i).testBit j)=(List.range i).filter (fun j=>!S.testBit j):=List.filter_congr fun x hx=>by
  rw[tb,decide_eq_false (by have:=List.mem_range.1 hx;omega),Bool.or_false]
 have e2:((List.range d).map (i+1+·)).filter (fun j=>!(S ||| 1 <<< i).testBit j)=((List.range d).map (i+1+·)).filter (fun j=>!S.testBit j):=List.filter_congr fun x hx=>by
  obtain⟨y,_,rfl⟩:=List.mem_map.1 hx
  rw[tb,decide_eq_false (by omega),Bool.or_false]
 have e3:[i].filter (fun j=>!(S ||| 1 <<< i).testBit j)=[]:=by simp[tb]
 have e4:[i].filter (fun j=>!S.testBit j)=[i]:=by simp[h]
 rw[e1,e2,e3,e4]
 simp
 omega
theorem YW(n:Nat)(st:Nat×List Nat)(s:Nat):(iV n st s).2.length+lacks n (iV n st s).1=st.2.length+lacks n st.1:=by
 unfold iV
 split
 ·rename_i h
  have:=VO n st.1 s h.1 h.2
  simp;omega
 ·rfl
theorem yF(n:Nat)(l:List Nat)(st:Nat×List Nat):(l.foldl (iV n) st).2.length+lacks n (l.foldl (iV n) st).1=st.2.length+lacks n st.1:=by
 induction l generalizing st with
 | nil=>rfl
 | cons a l ih=>rw[List.foldl_cons,ih,YW]
theorem acK(n:Nat)(st:Nat×List Nat)(s:Nat)(h:st.1<2 ^ n):(iV n st s).1<2 ^ n:=by
 unfold iV
 split
 ·rename_i h1;exact VN n _ _ h1.1 h
 ·exact h
theorem Ny(n S:Nat):lacks n S≤n:=by
 have:=List.length_filter_le (fun i=>!S.testBit i) (List.range n)
 simpa [lacks] using this
theorem Qw(n:Nat)(goes:Nat→List Nat)(f:Nat)(st:Nat×List Nat)(s:Nat)(ws:List Nat)(h:st.2=ws++[s]):oN n goes (f+1) st=oN n goes f ((goes s).foldl (iV n) (st.1,ws)):=by
 rw[oN,h,List.getLast?_concat,List.dropLast_concat]
theorem Qx(n:Nat)(goes:Nat→List Nat)(f:Nat)(st:Nat×List Nat)(h:st.2=[]):oN n goes f st=st.1:=by
 cases f with
 | zero=>rfl
 | succ f=>rw[oN,h];rfl
end
section
open Go.ChangeShapes Go.WideShapes Go.ChangeAt Go.RowKit Go.Deep
section
variable {H:Type} {enc:TypeId×Value→H} {P:Program} {w:World} {base:Nat} {spare:Nat→Bool} {held:Bool} {fuel:Nat} {t e:TypeId} {cs:List Value} {x:DataW H×List MemPlace}
theorem wf_u8{z:Int}(h:(Lit.int .u8 z).wf=true):∃ n:Nat,z=(n:Int)∧n<256:=by
 have:0≤z∧z≤255:=by simpa [Lit.wf,IntKind.min,IntKind.max,IntKind.bits,IntKind.signed] using h
 exact⟨z.toNat,by omega,by omega⟩
theorem TG{ts:TypeId}(hs:P.underlying ts=some (.slice e))(he:P.underlying e=some (.int .u8))(hc:P.cellsOf e=1)
  {a:Option Addr} {len cap:Nat} (h:DataW.trod enc P w base spare held fuel ts [.slice a len cap]=some x):∃ l:List Nat,len=l.length∧ak w (.slice a l.length cap) 1 gX l∧∀ x∈l,x<256:=by
 rcases open_slice1 hs hc h with⟨h0,_⟩ | ⟨a',len',cap',m,n,V,D,Pl,h0,_,hle,hm,hmm,_,hx⟩
 ·simp at h0
  obtain⟨rfl,rfl,rfl⟩:=h0
  exact⟨[],rfl,⟨none,0,0,0,rfl,Nat.le_refl _,by simp[maxLen],.inr ⟨rfl,fun _=>rfl⟩,fun i hi=>by simp at hi⟩,by simp⟩
 ·simp at h0
  obtain⟨rfl,rfl,rfl⟩:=h0
  have hlm:len≤m:=by rw[hmm];split <;> omega
  have key:∀ i,i<len→∃ y:Nat,w.cell? (a'.add i)=some (.int .u8 y)∧y<256:=fun i hi=>by
   obtain⟨h1,h2⟩:=hx i (by omega)
   obtain⟨z,h3,_,h4⟩:=DataW.trod_int he h2
   obtain⟨y,rfl,hy⟩:=wf_u8 h4
   exact⟨y,by rw[h1];simpa using h3,hy⟩
  obtain⟨f,hf⟩:=choose_lt key
  have hspot:0<len→a'.spot=none:=fun h0=>by
   have:=World.cell?_spot (hf 0 h0).1
   simpa [Addr.add] using this
  obtain⟨b,o,spot⟩:=a'
  refine⟨(List.range len).map f,by simp,⟨some ⟨b,o,spot⟩,b,o,cap,by simp,by simpa using hle,hm,?_,fun i hi j u hu=>?_⟩,fun y hy=>?_⟩
  ·by_cases h0:len=0
   ·exact .inr ⟨by simp[h0],fun h=>by cases h⟩
   ·have h1:=hspot (by omega)
    simp only at h1
    exact .inl (by rw[h1])
  ·have hi':i<len:=by simpa using hi
   have:=(hf i hi').1
   have hs2:spot=none:=hspot (by omega)
   subst hs2
   rw[Addr.add_mid] at this
   have hj:j=0:=by have:=(List.getElem?_eq_some_iff.1 hu).1;simpa using this
   subst hj
   have e:gX ((List.range len).map f)[i]=gX (f i):=by simp
   rw[e] at hu
   simp at hu
   rw[←hu,Nat.mul_one,Nat.add_zero];exact this
  ·obtain⟨i,hi,rfl⟩:=List.mem_map.1 hy
   exact(hf i (by simpa using hi)).2
end
end
section
open Go.ChangeShapes Go.WideShapes Go.ChangeAt Go.RowKit Go.Deep
inductive Tr where
 | mk (k:Int) (s:ay) (kids:List Tr) (lo hi:Int)
inductive Vt where
 | mk (k:Int) (s:ay) (a:Option Addr) (cap:Nat) (kids:List Vt) (lo hi:Int)
def Vt.tr:Vt→Tr
 | .mk k s _ _ kids lo hi=>.mk k s (kids.map Vt.tr) lo hi
abbrev aA(k:Int)(s:ay)(a:Option Addr)(n cap:Nat)(lo hi:Int):List Value :=
 [.int .i64 k,.int .u64 (word s 0:Nat),.int .u64 (word s 1:Nat),.int .u64 (word s 2:Nat),.int .u64 (word s 3:Nat),.slice a n cap,.int .i64 lo,.int .i64 hi]
def Vt.cells:Vt→List Value
 | .mk k s a cap kids lo hi=>aA k s a kids.length cap lo hi
def Tr.kids:Tr→List Tr
 | .mk _ _ kids _ _=>kids
theorem Vt.aY(V:Vt):V.cells.length=8:=by cases V;rfl
theorem Vt.cells_one(V:Vt):∀ u∈V.cells,u.oneCell'=true:=by
 obtain⟨k,s,a,cap,kids,lo,hi⟩:=V
 intro u hu
 simp[Vt.cells] at hu
 rcases hu with rfl | rfl | rfl | rfl | rfl | rfl | rfl | rfl <;> rfl
abbrev I64(z:Int):Prop:=-9223372036854775808≤z∧z≤9223372036854775807
inductive Lies (w:World):Vt→Prop
 | mk (k:Int) (s:ay) (a:Option Addr) (cap:Nat) (kids:List Vt) (lo hi:Int) (hk:I64 k) (hlo:I64 lo) (hhi:I64 hi)
   (hs:ak w (.slice a kids.length cap) 8 Vt.cells kids) (hkids:∀ i (h:i<kids.length),Lies w kids[i]):Lies w (.mk k s a cap kids lo hi)
theorem Lies.kept{w w':World}{V:Vt}(h:Lies w V)(hb:Below w.heap.size w w'):Lies w' V:=by
 induction h with
 | mk k s a cap kids lo hi hk hlo hhi hs _ ih=>exact .mk k s a cap kids lo hi hk hlo hhi (hs.kept hb) ih
theorem Lies.open{w:World}{k:Int}{s:ay}{a:Option Addr}{cap:Nat}{kids:List Vt}{lo hi:Int}(h:Lies w (.mk k s a cap kids lo hi)) :
  I64 k∧I64 lo∧I64 hi∧ak w (.slice a kids.length cap) 8 Vt.cells kids∧∀ i (h:i<kids.length),Lies w kids[i]:=by
 cases h with
 | mk _ _ _ _ _ _ _ hk hlo hhi hs hkids=>exact⟨hk,hlo,hhi,hs,hkids⟩
theorem Lies.drew{w:World}{V:Vt}(h:Lies w V):Lies w.drew V:=by
 induction h with
 | mk k s a cap kids lo hi hk hlo hhi hs _ ih=>exact .mk k s a cap kids lo hi hk hlo hhi hs ih
theorem Vt.ind{M:Vt→Prop}(h:∀ k s a cap kids lo hi,(∀ i (h:i<kids.length),M kids[i])→M (.mk k s a cap kids lo hi)):∀ V,M V
 | .mk k s a cap kids lo hi=>h k s a cap kids lo hi (fun i hi=>Vt.ind h kids[i])
termination_by V=>SizeOf.sizeOf V
decreasing_by
 have:=List.sizeOf_lt_of_mem (List.getElem_mem hi)
 simp only[Vt.mk.sizeOf_spec]
 omega
theorem Tr.ind{M:Tr→Prop}(h:∀ k s kids lo hi,(∀ i (h:i<kids.length),M kids[i])→M (.mk k s kids lo hi)):∀ V,M V
 | .mk k s kids lo hi=>h k s kids lo hi (fun i hi=>Tr.ind h kids[i])
termination_by V=>SizeOf.sizeOf V
decreasing_by
 have:=List.sizeOf_lt_of_mem (List.getElem_mem hi)
 simp only[Tr.mk.sizeOf_spec]
 omega
theorem Vt.jd(k:Int)(s:ay)(a:Option Addr)(cap:Nat)(kids:List Vt)(lo hi:Int):(Vt.mk k s a cap kids lo hi).tr=.mk k s (kids.map Vt.tr) lo hi:=by rw[Vt.tr]
mutual
def eqT:Tr→Tr→Bool
 | .mk k s l lo hi,.mk k' s' l' lo' hi'=>decide (k=k')&&decide (s=s')&&decide (lo=lo')&&decide (hi=hi')&&adI l l'
def adI:List Tr→List Tr→Bool
 | [],[]=>true
 | a::l,b::m=>eqT a b&&adI l m
 | [],_::_=>false
 | _::_,[]=>false
end
theorem oO{w:World}{b o:Nat}{k:Int}{s:ay}{a:Option Addr}{n cap:Nat}{lo hi:Int}(h:∀ j u,(aA k s a n cap lo hi)[j]?=some u→w.cell? ⟨b,o+j,none⟩=some u) :
  w.cell? ⟨b,o,none⟩=some (.int .i64 k)∧w.cell? ⟨b,o+1,none⟩=some (.int .u64 (word s 0:Nat))∧w.cell? ⟨b,o+2,none⟩=some (.int .u64 (word s 1:Nat)) ∧
  w.cell? ⟨b,o+3,none⟩=some (.int .u64 (word s 2:Nat))∧w.cell? ⟨b,o+4,none⟩=some (.int .u64 (word s 3:Nat))∧w.cell? ⟨b,o+5,none⟩=some (.slice a n cap) ∧
  w.cell? ⟨b,o+6,none⟩=some (.int .i64 lo)∧w.cell? ⟨b,o+7,none⟩=some (.int .i64 hi) :=
 ⟨h 0 _ rfl,h 1 _ rfl,h 2 _ rfl,h 3 _ rfl,h 4 _ rfl,h 5 _ rfl,h 6 _ rfl,h 7 _ rfl⟩
theorem Box.node{w:World}{b E:Nat}{k:Int}{s:ay}{a:Option Addr}{n cap:Nat}{lo hi:Int}(h:Box w b (aA k s a n cap lo hi).toArray E) :
  w.cell? ⟨b,0,none⟩=some (.int .i64 k)∧w.cell? ⟨b,1,none⟩=some (.int .u64 (word s 0:Nat))∧w.cell? ⟨b,2,none⟩=some (.int .u64 (word s 1:Nat)) ∧
  w.cell? ⟨b,3,none⟩=some (.int .u64 (word s 2:Nat))∧w.cell? ⟨b,4,none⟩=some (.int .u64 (word s 3:Nat))∧w.cell? ⟨b,5,none⟩=some (.slice a n cap) ∧
  w.cell? ⟨b,6,none⟩=some (.int .i64 lo)∧w.cell? ⟨b,7,none⟩=some (.int .i64 hi) :=
 ⟨h.cell 0,h.cell 1,h.cell 2,h.cell 3,h.cell 4,h.cell 5,h.cell 6,h.cell 7⟩
theorem ak.kids{w:World}{a:Option Addr}{cap:Nat}{kids:List Vt}(h:ak w (.slice a kids.length cap) 8 Vt.cells kids) :
  ∃ b o,kids.length≤cap∧cap≤9223372036854775807∧(∀ i,i<kids.length→a=some ⟨b,o,none⟩)∧(0<kids.length→b<w.heap.size) ∧
   ∀ i (h:i<kids.length) (w':World),Below w.heap.size w w'→∀ j u,(kids[i].cells)[j]?=some u→w'.cell? ⟨b,o+i*8+j,none⟩=some u:=by
 obtain⟨b,o,_,h2,h3,h4,h5⟩:=h.open
 refine⟨b,o,h2,h3,h4,fun h0=>?_,fun i hi w' hB j u hu=>?_⟩
 ·have:0<(kids[0].cells).length:=by rw[Vt.aY];omega
  exact World.block_lt_of_cell? w _ (h5 0 h0 0 _ (List.getElem?_eq_getElem this))
 ·have:=h5 i hi j u hu
  rw[hB.cell (World.block_lt_of_cell? w _ this)];exact this
structure aku(P:Program)(tN tK tS tU tL tI:TypeId)(fs:Array Field):Prop where
 node:P.underlying tN=some (.struct fs)
 aiP:fs.map (fun f=>(f.type,f.offset))=#[(tK,0),(tS,1),(tL,5),(tI,6),(tI,7)]
 kind:P.underlying tK=some (.int .i64)
 set:P.underlying tS=some (.array 4 tU)
 word:P.underlying tU=some (.int .u64)
 list:P.underlying tL=some (.slice tN)
 int:P.underlying tI=some (.int .i64)
 cN:P.cellsOf tN=8
 cK:P.cellsOf tK=1
 cS:P.cellsOf tS=4
 cU:P.cellsOf tU=1
 cL:P.cellsOf tL=1
 cI:P.cellsOf tI=1
section
variable {H:Type} {enc:TypeId×Value→H} {P:Program} {w:World} {base:Nat} {spare:Nat→Bool} {held:Bool} {tN tK tS tU tL tI:TypeId} {fs:Array Field}
end
end
section
open Go.RowKit
inductive On (S:Nat→Prop):Vt→Prop
 | mk (k:Int) (s:ay) (a:Option Addr) (cap:Nat) (kids:List Vt) (lo hi:Int) (h:0<kids.length→∀ ad,a=some ad→S ad.block) (hk:∀ i (h:i<kids.length),On S kids[i]):On S (.mk k s a cap kids lo hi)
theorem On.mono{S S':Nat→Prop}{V:Vt}(h:On S V)(hs:∀ b,S b→S' b):On S' V:=by
 induction h with
 | mk k s a cap kids lo hi h _ ih=>exact .mk k s a cap kids lo hi (fun h0 ad ha=>hs _ (h h0 ad ha)) ih
theorem On.and{S S':Nat→Prop}{V:Vt}(h:On S V)(h':On S' V):On (fun b=>S b∧S' b) V:=by
 induction h with
 | mk k s a cap kids lo hi h _ ih =>
  cases h' with
  | mk _ _ _ _ _ _ _ h2 k2=>exact .mk k s a cap kids lo hi (fun h0 ad ha=>⟨h h0 ad ha,h2 h0 ad ha⟩) fun i hi=>ih i hi (k2 i hi)
theorem ak.blk{α:Type}{w:World}{ad:Addr}{n cap size:Nat}{enc:α→List Value}{xs:List α}(h:ak w (.slice (some ad) n cap) size enc xs)(h0:0<xs.length)(he:0<(enc xs[0]).length):ad.block<w.heap.size:=by
 obtain⟨b,o,_,_,_,ha,hx⟩:=h.open
 obtain rfl:=Option.some.inj (ha 0 h0)
 have:=World.block_lt_of_cell? w _ (hx 0 h0 0 _ (List.getElem?_eq_getElem he))
 exact this
theorem Lies.on{w:World}{V:Vt}(h:Lies w V):On (fun b=>b<w.heap.size) V:=by
 induction h with
 | mk k s a cap kids lo hi _ _ _ hs _ ih=>exact .mk k s a cap kids lo hi (fun h0 ad ha=>by subst ha;exact hs.blk h0 (by rw[Vt.aY];decide)) ih
theorem ak.dR{α:Type}{w w':World}{a:Option Addr}{n cap size:Nat}{enc:α→List Value}{xs:List α}(h:ak w (.slice a n cap) size enc xs)(hb:0<xs.length→∀ ad,a=some ad→w'.heap[ad.block]?=w.heap[ad.block]?):ak w' (.slice a n cap) size enc xs:=by
 obtain⟨a',b,o,cap',hv,hl,hc,ha,hx⟩:=h
 obtain⟨rfl,rfl,rfl⟩:=Value.slice.inj hv
 refine⟨a,b,o,cap,rfl,hl,hc,ha,fun i hi j u hu=>?_⟩
 rcases ha with rfl | ⟨rfl,_⟩
 ·rw[←hx i hi j u hu]
  exact World.cell?_of_block (a:=⟨b,o+i*size+j,none⟩) (hb (by omega) ⟨b,o,none⟩ rfl)
 ·simp at hi
theorem Lies.dR{w w':World}{S:Nat→Prop}{V:Vt}(h:Lies w V)(ho:On S V)(hb:∀ b,S b→w'.heap[b]?=w.heap[b]?):Lies w' V:=by
 induction h with
 | mk k s a cap kids lo hi h1 h2 h3 hs _ ih =>
  cases ho with
  | mk _ _ _ _ _ _ _ g1 g2=>exact .mk k s a cap kids lo hi h1 h2 h3 (hs.dR fun h0 ad ha=>hb _ (g1 h0 ad ha)) fun i hi=>ih i hi (g2 i hi)
theorem Bc:eH Vt.cells 8:=⟨Vt.aY,Vt.cells_one⟩
def rZ(w:World)(base E:Nat)(v:Value)(vs:List Vt):Prop :=
 Own w base E 8 Vt.cells v vs∧(∀ i (h:i<vs.length),Lies w vs[i])∧∀ i (h:i<vs.length),On (fun b=>v.ownBlock≠some b) vs[i]
theorem rZ.kept{w w':World}{base E:Nat}{v:Value}{vs:List Vt}(h:rZ w base E v vs)(hb:Below w.heap.size w w'):rZ w' base E v vs :=
 ⟨h.1.kept hb,fun i hi=>(h.2.1 i hi).kept hb,h.2.2⟩
theorem rZ.nil(w:World)(base E:Nat):rZ w base E (.slice none 0 0) []:=⟨Own.nil _ _ _ _ _,fun i h=>by simp at h,fun i h=>by simp at h⟩
theorem rZ.appended{w w':World}{base E:Nat}{v v':Value}{vs:List Vt}{y:Vt}(h:rZ w base E v vs)(hy:Lies w y)(hoy:On (fun b=>v.ownBlock≠some b) y)
  (ho:Own w' base E 8 Vt.cells v' (vs++[y])) (hg:w.grownBy w' v.ownBlock) (hb:v'.ownBlock=v.ownBlock∨v'.ownBlock=some w.heap.size):rZ w' base E v' (vs++[y]):=by
 have key:∀ V:Vt,Lies w V→On (fun b=>v.ownBlock≠some b) V→Lies w' V∧On (fun b=>v'.ownBlock≠some b) V:=fun V h1 h2=>by
  have h3:=h2.and h1.on
  refine⟨h1.dR h3 fun b ⟨hb1,hb2⟩=>hg.block b hb2 (fun e=>hb1 e.symm),h3.mono fun b ⟨hb1,hb2⟩=>?_⟩
  rcases hb with hb | hb
  ·rw[hb];exact hb1
  ·rw[hb];intro e;have:=Option.some.inj e;omega
 refine⟨ho,fun i hi=>?_,fun i hi=>?_⟩
 ·by_cases hlt:i<vs.length
  ·rw[List.getElem_append_left hlt];exact(key _ (h.2.1 i hlt) (h.2.2 i hlt)).1
  ·have:i=vs.length:=by simp at hi;omega
   subst this;simpa using (key y hy hoy).1
 ·by_cases hlt:i<vs.length
  ·rw[List.getElem_append_left hlt];exact(key _ (h.2.1 i hlt) (h.2.2 i hlt)).2
  ·have:i=vs.length:=by simp at hi;omega
   subst this;simpa using (key y hy hoy).2
theorem rZ.slice{w:World}{base E:Nat}{a:Option Addr}{n cap:Nat}{vs:List Vt}(h:rZ w base E (.slice a n cap) vs):ak w (.slice a n cap) 8 Vt.cells vs:=h.1.slice Bc
def Nz(w:World)(A:Tr)(e:Ending)(w':World):Prop :=
 ∃ V:Vt,e=.returned (.agg V.cells.toArray)∧V.tr=A∧Lies w' V∧On (fun b=>w.heap.size≤b) V∧Below w.heap.size w w'
def adJ(w:World)(A:Tr)(e:Ending)(w':World):Prop :=
 ∃ V:Vt,e=.returned (.agg V.cells.toArray)∧V.tr=A∧Lies w' V∧Below w.heap.size w w'
theorem Nz.open{w w':World}{A:Tr}{e:Ending}(h:Nz w A e w'):∃ (k:Int) (s:ay) (a:Option Addr) (cap:Nat) (kids:List Vt) (lo hi:Int),e=.returned (.agg (aA k s a kids.length cap lo hi).toArray) ∧
  (Vt.mk k s a cap kids lo hi).tr=A∧Lies w' (.mk k s a cap kids lo hi)∧On (fun b=>w.heap.size≤b) (.mk k s a cap kids lo hi)∧Below w.heap.size w w':=by
 obtain⟨⟨k,s,a,cap,kids,lo,hi⟩,h1,h2,h3,h4,h5⟩:=h
 exact⟨k,s,a,cap,kids,lo,hi,h1,h2,h3,h4,h5⟩
theorem adJ.open{w w':World}{A:Tr}{e:Ending}(h:adJ w A e w'):∃ (k:Int) (s:ay) (a:Option Addr) (cap:Nat) (kids:List Vt) (lo hi:Int),e=.returned (.agg (aA k s a kids.length cap lo hi).toArray) ∧
  (Vt.mk k s a cap kids lo hi).tr=A∧Lies w' (.mk k s a cap kids lo hi)∧Below w.heap.size w w':=by
 obtain⟨⟨k,s,a,cap,kids,lo,hi⟩,h1,h2,h3,h5⟩:=h
 exact⟨k,s,a,cap,kids,lo,hi,h1,h2,h3,h5⟩
def yG(B:Nat)(w w':World):Prop:=∀ b,B≤b→w'.heap[b]?=w.heap[b]?
theorem yG.refl(B:Nat)(w:World):yG B w w:=fun _ _=>rfl
theorem yG.set{B:Nat}{w w':World}(h:yG B w w'){a:Addr}(ha:a.block<B)(v:Value):yG B w (w'.setCell a v):=fun b hb=>(heap_setCell_other w' a b v (by omega)).trans (h b hb)
theorem Lies.above{w w':World}{B:Nat}{V:Vt}(h:Lies w V)(ho:On (fun b=>B≤b) V)(hb:yG B w w'):Lies w' V:=h.dR ho hb
theorem Own.above{α:Type}{w w':World}{base B E size:Nat}{enc:α→List Value}{v:Value}{xs:List α}(h:Own w base E size enc v xs)(hB:B≤base)(hb:yG B w w'):Own w' base E size enc v xs:=by
 obtain⟨a,cap,hv,hle,hm,hh⟩:=h
 refine⟨a,cap,hv,hle,hm,?_⟩
 rcases hh with hh | ⟨g,cur,ha,hbg,hg,hr⟩
 ·exact .inl hh
 ·exact .inr ⟨g,cur,ha,hbg,(hb g (by omega)).trans hg,hr⟩
theorem rZ.node{w w':World}{base B E:Nat}{a:Option Addr}{cap:Nat}{vs:List Vt}(h:rZ w base E (.slice a vs.length cap) vs)(hon:∀ i (h:i<vs.length),On (fun b=>B≤b) vs[i])(hB:B≤base)(hb:yG B w w')
  (k:Int) (s:ay) (lo hi:Int) (hk:I64 k) (hlo:I64 lo) (hhi:I64 hi):Lies w' (.mk k s a cap vs lo hi)∧On (fun b=>B≤b) (.mk k s a cap vs lo hi):=by
 refine⟨.mk k s a cap vs lo hi hk hlo hhi ((h.1.above hB hb).slice Bc) fun i hi=>(h.2.1 i hi).above (hon i hi) hb,.mk k s a cap vs lo hi (fun h0 ad ha=>?_) hon⟩
 obtain⟨g,hg,hbg,_⟩:=h.1.addr h0
 rw[hg] at ha
 obtain rfl:=Option.some.inj ha
 exact Nat.le_trans hB hbg
theorem Box.su{w:World}{b E:Nat}{c:Array Value}(h:Box w b c E):w.frozen? ⟨b,0,none⟩=false∧w.frozen? ⟨b,1,none⟩=false∧w.frozen? ⟨b,2,none⟩=false∧w.frozen? ⟨b,3,none⟩=false∧w.frozen? ⟨b,4,none⟩=false∧w.frozen? ⟨b,5,none⟩=false∧w.frozen? ⟨b,6,none⟩=false∧w.frozen? ⟨b,7,none⟩=false :=
 ⟨h.free 0,h.free 1,h.free 2,h.free 3,h.free 4,h.free 5,h.free 6,h.free 7⟩
mutual
def sizeT:Tr→Nat
 | .mk _ _ l _ _=>1+nC l
def nC:List Tr→Nat
 | []=>0
 | a::l=>sizeT a+nC l
end
theorem VP(A:Tr):1≤sizeT A:=by cases A;simp[sizeT]
theorem H6(l:List Tr):l.length≤nC l:=by
 induction l with
 | nil=>simp[nC]
 | cons a l ih=>have:=VP a;simp[nC];omega
theorem TI(l:List Tr)(i:Nat)(h:i<l.length):sizeT l[i]≤nC l:=by
 induction l generalizing i with
 | nil=>simp at h
 | cons a l ih =>
  cases i with
  | zero=>simp[nC]
  | succ i=>have:=ih i (by simpa using h);simp[nC];omega
end
section
open Go.RowKit
structure Nf where
 states:Nat
 links:List (Nat×Nat)
 edges:List (Nat×ay×Nat)
 accept:List Nat
def Nf.state(y:Nf)(k:Nat):Nf:={ y with states:=y.states+1,accept:=y.accept++[k] }
def Nf.link(y:Nf)(a b:Nat):Nf:={ y with links:=y.links++[(a,b)] }
def Nf.edge(y:Nf)(a:Nat)(s:ay)(b:Nat):Nf:={ y with edges:=y.edges++[(a,s,b)] }
def aC:Nat:=1099511627776
def addN(a b:Nat):Nat:=if aC - a<b then aC else a+b
def mulN(a b:Nat):Nat:=if a=0∨b=0 then 0 else if aC / b<a then aC else a*b
mutual
def aS:Tr→Nat
 | .mk k _ kids lo hi =>
  if k=2∨k=4 then bD 0 kids
  else if k=9 then
   (let n:=bD 0 kids
    if n=0 then 0 else if hi<0 then addN (addN (mulN lo.toNat n) n) 1 else if lo<hi then addN (addN (mulN lo.toNat n) (mulN (hi - lo).toNat n)) 1 else mulN lo.toNat n)
  else addN (bD 0 kids) 1
def bD:Nat→List Tr→Nat
 | acc,[]=>acc
 | acc,x::l=>bD (addN acc (aS x)) l
end
def bF(f:Nf×Nat→Nf×Nat):Nat→Nf×Nat→Nf×Nat
 | 0,x=>x
 | n+1,x=>bF f n (f x)
def pX(plus:Bool)(f:Nf×Nat→Nf×Nat)(z:Nf×Nat):Nf×Nat :=
 let r:=f ((z.1.state 0).link z.2 z.1.states,z.1.states)
 (r.1.link r.2 z.1.states,if plus then r.2 else z.1.states)
mutual
def aU:Tr→Nf×Nat→Nf×Nat
 | .mk k s kids lo hi,(y,at') =>
  if k=4 then jm kids (y,at')
  else if k=5 then
   (let r:=eY kids y at' []
    (r.2.foldl (fun z e=>z.link e r.1.states) (r.1.state 0),r.1.states))
  else if k=6∨k=7 then pX (k=7) (lD kids) (y,at')
  else if k=8 then
   (let r:=lD kids (y,at')
    (((r.1.state 0).link r.2 r.1.states).link at' r.1.states,r.1.states))
  else if k=9 then
   (if bD 0 kids=0 then (y,at') else
    let r:=bF (lD kids) lo.toNat (y,at')
    if hi<0 then pX false (lD kids) r
    else if hi=lo then r
    else
     let e:=bF (fun z=>lD kids (z.1.link z.2 r.1.states,z.2)) (hi - lo).toNat (r.1.state 0,r.2)
     (e.1.link e.2 r.1.states,r.1.states))
  else if k=2 then (y,at')
  else if k=3 then ((y.state 0).edge at' s y.states,y.states)
  else (y.state 0,y.states)
termination_by structural x=>x
def lD:List Tr→Nf×Nat→Nf×Nat
 | [],z=>z
 | x::_,z=>aU x z
termination_by structural x=>x
def jm:List Tr→Nf×Nat→Nf×Nat
 | [],z=>z
 | x::l,z=>jm l (aU x z)
termination_by structural x=>x
def eY:List Tr→Nf→Nat→List Nat→Nf×List Nat
 | [],y,_,ends=>(y,ends)
 | x::l,y,at',ends=>eY l (aU x (y,at')).1 at' (ends++[(aU x (y,at')).2])
termination_by structural x=>x
end
end
section
open Go.RowKit
def Nf.small(N:Nf):Prop:=N.links.length≤1099511627776∧N.edges.length≤1099511627776∧N.accept.length≤1099511627776
def Nf.le(A B:Nf):Prop:=A.links.length≤B.links.length∧A.edges.length≤B.edges.length∧A.accept.length≤B.accept.length
theorem Nf.le.refl(A:Nf):A.le A:=⟨Nat.le_refl _,Nat.le_refl _,Nat.le_refl _⟩
theorem Nf.le.trans{A B C:Nf}(h:A.le B)(k:B.le C):A.le C:=⟨Nat.le_trans h.1 k.1,Nat.le_trans h.2.1 k.2.1,Nat.le_trans h.2.2 k.2.2⟩
theorem Nf.le.small{A B:Nf}(h:A.le B)(k:B.small):A.small:=⟨Nat.le_trans h.1 k.1,Nat.le_trans h.2.1 k.2.1,Nat.le_trans h.2.2 k.2.2⟩
theorem Nf.gY(A:Nf)(k:Nat):A.le (A.state k):=⟨Nat.le_refl _,Nat.le_refl _,by simp[Nf.state]⟩
theorem Nf.ig(A:Nf)(a b:Nat):A.le (A.link a b):=⟨by simp[Nf.link],Nat.le_refl _,Nat.le_refl _⟩
theorem Nf.JM(A:Nf)(a:Nat)(s:ay)(b:Nat):A.le (A.edge a s b):=⟨Nat.le_refl _,by simp[Nf.edge],Nat.le_refl _⟩
theorem yH(f:Nf×Nat→Nf×Nat)(hf:∀ z:Nf×Nat,z.1.le (f z).1):∀ (n:Nat) (z:Nf×Nat),z.1.le (bF f n z).1
 | 0,z=>by rw[bF];exact .refl _
 | n+1,z=>by rw[bF];exact(hf z).trans (yH f hf n _)
theorem qG(f:Nf×Nat→Nf×Nat):∀ n z,bF f (n+1) z=f (bF f n z)
 | 0,z=>by rw[bF,bF,bF]
 | n+1,z=>by rw[bF,qG f n,←bF]
theorem F9(p:Bool)(f:Nf×Nat→Nf×Nat)(hf:∀ z:Nf×Nat,z.1.le (f z).1)(z:Nf×Nat):z.1.le (pX p f z).1:=by
 unfold pX
 dsimp only
 exact((Nf.gY z.1 0).trans (Nf.ig _ z.2 z.1.states)).trans ((hf ((z.1.state 0).link z.2 z.1.states,z.1.states)).trans (Nf.ig _ _ _))
theorem Gf(l:List Nat)(b:Nat):∀ (N:Nf),N.le (l.foldl (fun z e=>z.link e b) N):=by
 induction l with
 | nil=>intro N;exact .refl _
 | cons e l ih=>intro N;rw[List.foldl_cons];exact(Nf.ig _ _ _).trans (ih _)
mutual
theorem lS:∀ (t:Tr) (z:Nf×Nat),z.1.le (aU t z).1
 | .mk k s kids lo hi,(y,f)=>by
  rw[aU]
  split
  ·exact JO kids _
  split
  ·exact(JQ kids y f []).trans ((Nf.gY _ _).trans (Gf _ _ _))
  split
  ·exact F9 _ _ (fun z=>pY kids z) _
  split
  ·exact(pY kids _).trans ((Nf.gY _ _).trans ((Nf.ig _ _ _).trans (Nf.ig _ _ _)))
  split
  ·split
   ·exact .refl _
   ·dsimp only
    have h1:=yH (lD kids) (fun z=>pY kids z) lo.toNat (y,f)
    split
    ·exact h1.trans (F9 _ _ (fun z=>pY kids z) _)
    ·split
     ·exact h1
     ·exact h1.trans ((Nf.gY _ 0).trans ((yH _ (fun z=>(Nf.ig _ _ _).trans (pY kids (_,_))) _ (_,_)).trans (Nf.ig _ _ _)))
  split
  ·exact .refl _
  split
  ·exact(Nf.gY _ 0).trans (Nf.JM _ _ _ _)
  ·exact Nf.gY _ 0
theorem pY:∀ (l:List Tr) (z:Nf×Nat),z.1.le (lD l z).1
 | [],z=>by rw[lD];exact .refl _
 | x::_,z=>by rw[lD];exact lS x z
theorem JO:∀ (l:List Tr) (z:Nf×Nat),z.1.le (jm l z).1
 | [],z=>by rw[jm];exact .refl _
 | x::l,z=>by rw[jm];exact(lS x z).trans (JO l _)
theorem JQ:∀ (l:List Tr) (y:Nf) (f:Nat) (ends:List Nat),y.le (eY l y f ends).1
 | [],y,_,_=>by rw[eY];exact .refl _
 | x::l,y,f,ends=>by rw[eY];exact(lS x (y,f)).trans (JQ l _ f _)
end
theorem zC:∀ (l m:List Tr) (z:Nf×Nat),jm (l++m) z=jm m (jm l z)
 | [],m,z=>by rw[List.nil_append,jm]
 | x::l,m,z=>by rw[List.cons_append,jm,jm,zC l m]
theorem VQ(l:List Tr)(k:Nat)(h:k<l.length)(z:Nf×Nat):jm (l.take (k+1)) z=aU l[k] (jm (l.take k) z):=by
 rw[List.take_succ_eq_append_getElem h,zC,jm,jm]
theorem NC(l:List Tr)(k:Nat)(z:Nf×Nat):(jm (l.take k) z).1.le (jm l z).1:=by
 conv=>rhs;rw[←List.take_append_drop k l]
 rw[zC];exact JO _ _
theorem zD:∀ (l m:List Tr) (y:Nf) (f:Nat) (ends:List Nat),eY (l++m) y f ends=eY m (eY l y f ends).1 f (eY l y f ends).2
 | [],m,y,f,ends=>by rw[List.nil_append,eY]
 | x::l,m,y,f,ends=>by rw[List.cons_append,eY,zD l m,eY]
theorem VR(l:List Tr)(k:Nat)(h:k<l.length)(y:Nf)(f:Nat)(ends:List Nat) :
  eY (l.take (k+1)) y f ends=((aU l[k] ((eY (l.take k) y f ends).1,f)).1,(eY (l.take k) y f ends).2++[(aU l[k] ((eY (l.take k) y f ends).1,f)).2]):=by
 rw[List.take_succ_eq_append_getElem h,zD,eY,eY]
theorem ND(l:List Tr)(k:Nat)(y:Nf)(f:Nat)(ends:List Nat):(eY (l.take k) y f ends).1.le (eY l y f ends).1:=by
 conv=>rhs;rw[←List.take_append_drop k l]
 rw[zD];exact JQ _ _ _ _
theorem Gg:∀ (l:List Tr) (y:Nf) (f:Nat) (ends:List Nat),(eY l y f ends).2.length=ends.length+l.length
 | [],y,f,ends=>by rw[eY];rfl
 | x::l,y,f,ends=>by rw[eY,Gg l,List.length_append,List.length_cons];simp;omega
end
section
open Go.RowKit
def lJ(z:Nf×Nat)(t:Tr):Nf×Nat:=(((aU t (z.1,0)).1.state (z.2+1)).link (aU t (z.1,0)).2 (aU t (z.1,0)).1.states,z.2+1)
def xJ:Nf:=(⟨0,[],[],[]⟩:Nf).state 0
def oP(l:List Tr):Nf×Nat:=l.foldl lJ (xJ,0)
def qA(l:List Tr):Nf:=(oP l).1
theorem NG(z:Nf×Nat)(t:Tr):z.1.le (lJ z t).1:=(lS t (z.1,0)).trans ((Nf.gY _ _).trans (Nf.ig _ _ _))
theorem NH:∀ (l:List Tr) (z:Nf×Nat),z.1.le (l.foldl lJ z).1
 | [],_=>.refl _
 | x::l,z=>(NG z x).trans (NH l _)
theorem VT(l:List Tr)(k:Nat)(h:k<l.length):oP (l.take (k+1))=lJ (oP (l.take k)) l[k]:=by
 unfold oP;rw[List.take_succ_eq_append_getElem h,List.foldl_append];rfl
theorem NI(l:List Tr)(k:Nat):(oP (l.take k)).1.le (oP l).1:=by
 unfold oP
 conv=>rhs;rw[←List.take_append_drop k l]
 rw[List.foldl_append];exact NH _ _
theorem YX(l:List Tr):(oP l).2=l.length:=by
 have:∀ (l:List Tr) (z:Nf×Nat),(l.foldl lJ z).2=z.2+l.length:=by
  intro l
  induction l with
  | nil=>intro z;rfl
  | cons x l ih=>intro z;rw[List.foldl_cons,ih,List.length_cons,lJ];dsimp only;omega
 unfold oP;rw[this];simp
structure Nf.wf(N:Nf):Prop where
 st:N.states=N.accept.length
 links:∀ x∈N.links,x.1<N.states∧x.2<N.states
 edges:∀ x∈N.edges,x.1<N.states∧x.2.2<N.states
 accept:∀ x∈N.accept,x≤64
def Nf.ok(z:Nf×Nat):Prop:=z.1.wf∧z.2<z.1.states
theorem Nf.wf.state{N:Nf}(h:N.wf){k:Nat}(hk:k≤64):(N.state k).wf:=by
 refine⟨?_,fun x hx=>?_,fun x hx=>?_,fun x hx=>?_⟩
 ·simp[Nf.state,h.st]
 ·have:=h.links x hx;simp only[Nf.state];omega
 ·have:=h.edges x hx;simp only[Nf.state];omega
 ·rcases List.mem_append.1 hx with hx | hx
  ·exact h.accept x hx
  ·simp at hx;omega
theorem Nf.wf.link{N:Nf}(h:N.wf){a b:Nat}(ha:a<N.states)(hb:b<N.states):(N.link a b).wf:=by
 refine⟨h.st,fun x hx=>?_,h.edges,h.accept⟩
 rcases List.mem_append.1 hx with hx | hx
 ·exact h.links x hx
 ·simp at hx;subst hx;exact⟨ha,hb⟩
theorem Nf.wf.edge{N:Nf}(h:N.wf){a b:Nat}{s:ay}(ha:a<N.states)(hb:b<N.states):(N.edge a s b).wf:=by
 refine⟨h.st,h.links,fun x hx=>?_,h.accept⟩
 rcases List.mem_append.1 hx with hx | hx
 ·exact h.edges x hx
 ·simp at hx;subst hx;exact⟨ha,hb⟩
theorem Nf.wf.vN{A B:Nf}(h:A.wf)(k:B.wf)(l:A.le B):A.states≤B.states:=by rw[h.st,k.st];exact l.2.2
theorem KJ(f:Nf×Nat→Nf×Nat)(hf:∀ z,Nf.ok z→Nf.ok (f z)):∀ (n:Nat) (z:Nf×Nat),Nf.ok z→Nf.ok (bF f n z)
 | 0,z,h=>by rw[bF];exact h
 | n+1,z,h=>by rw[bF];exact KJ f hf n _ (hf z h)
theorem NJ(p:Bool)(f:Nf×Nat→Nf×Nat)(hf:∀ z,Nf.ok z→Nf.ok (f z))(hm:∀ z:Nf×Nat,z.1.le (f z).1)(z:Nf×Nat)(h:Nf.ok z):Nf.ok (pX p f z):=by
 unfold pX
 dsimp only
 have h0:((z.1.state 0).link z.2 z.1.states).wf:=(h.1.state (by omega)).link (by simp only[Nf.state];have:=h.2;omega) (by simp only[Nf.state];omega)
 have h1:=hf ((z.1.state 0).link z.2 z.1.states,z.1.states) ⟨h0,by simp only[Nf.state,Nf.link];omega⟩
 have h2:=h0.vN h1.1 (hm ((z.1.state 0).link z.2 z.1.states,z.1.states))
 generalize f ((z.1.state 0).link z.2 z.1.states,z.1.states)=A at *
 simp only[Nf.state,Nf.link] at h2
 refine⟨h1.1.link h1.2 (by omega),?_⟩
 show(if p=true then A.2 else z.1.states)<A.1.states
 split
 ·exact h1.2
 ·omega
theorem YZ(l:List Nat)(b:Nat):∀ (N:Nf),N.wf→b<N.states→(∀ x∈l,x<N.states)→(l.foldl (fun z e=>z.link e b) N).wf∧(l.foldl (fun z e=>z.link e b) N).states=N.states:=by
 induction l with
 | nil=>intro N h _ _;exact⟨h,rfl⟩
 | cons e l ih =>
  intro N h hb hl
  rw[List.foldl_cons]
  exact ih (N.link e b) (h.link (hl e (by simp)) hb) hb fun x hx=>hl x (by simp[hx])
mutual
theorem Ew:∀ (t:Tr) (z:Nf×Nat),Nf.ok z→Nf.ok (aU t z)
 | .mk k s kids lo hi,(y,f),h=>by
  rw[aU]
  split
  ·exact Ru kids _ h
  split
  ·obtain⟨h1,h2⟩:=Rw kids y f [] h (by simp)
   dsimp only
   generalize eY kids y f []=A at *
   obtain⟨h3,h4⟩:=YZ A.2 A.1.states (A.1.state 0) (h1.state (by omega)) (by simp only[Nf.state];omega) (fun x hx=>by have:=h2 x hx;simp only[Nf.state];omega)
   exact⟨h3,by rw[h4];simp only[Nf.state];omega⟩
  split
  ·exact NJ _ _ (fun z=>zW kids z) (fun z=>pY kids z) _ h
  split
  ·have h1:=zW kids (y,f) h
   have h2:=h.1.vN h1.1 (pY kids (y,f))
   dsimp only at h2 ⊢
   generalize lD kids (y,f)=A at *
   have hf:f<y.states:=h.2
   exact⟨(((h1.1.state (by omega)).link (by simp only[Nf.state];have:=h1.2;omega) (by simp only[Nf.state];omega))).link (by simp only[Nf.state,Nf.link];omega) (by simp only[Nf.state,Nf.link];omega),by simp only[Nf.state,Nf.link];omega⟩
  split
  ·split
   ·exact h
   ·dsimp only
    have h1:=KJ (lD kids) (fun z=>zW kids z) lo.toNat (y,f) h
    generalize bF (lD kids) lo.toNat (y,f)=Z at *
    split
    ·exact NJ _ _ (fun z=>zW kids z) (fun z=>pY kids z) _ h1
    ·split
     ·exact h1
     ·have h0:(Z.1.state 0).wf:=h1.1.state (by omega)
      have key:∀ (n:Nat) (z:Nf×Nat),Nf.ok z→Z.1.states<z.1.states→Nf.ok (bF (fun z=>lD kids (z.1.link z.2 Z.1.states,z.2)) n z)∧Z.1.states<(bF (fun z=>lD kids (z.1.link z.2 Z.1.states,z.2)) n z).1.states:=by
       intro n
       induction n with
       | zero=>intro z hz hs;rw[bF];exact⟨hz,hs⟩
       | succ n ih =>
        intro z hz hs
        rw[bF]
        have h2:=zW kids (z.1.link z.2 Z.1.states,z.2) ⟨hz.1.link hz.2 hs,hz.2⟩
        have h3:=(hz.1.link hz.2 hs).vN h2.1 (pY kids (z.1.link z.2 Z.1.states,z.2))
        exact ih _ h2 (by simp only[Nf.link] at h3 ⊢;omega)
      obtain⟨h2,h3⟩:=key (hi - lo).toNat (Z.1.state 0,Z.2) ⟨h0,by have:=h1.2;simp only[Nf.state];omega⟩ (by simp only[Nf.state];omega)
      exact⟨h2.1.link h2.2 h3,h3⟩
  split
  ·exact h
  split
  ·have hf:f<y.states:=h.2
   exact⟨(h.1.state (by omega)).edge (by simp only[Nf.state];omega) (by simp only[Nf.state];omega),by simp only[Nf.state,Nf.edge];omega⟩
  ·exact⟨h.1.state (by omega),by simp only[Nf.state];omega⟩
theorem zW:∀ (l:List Tr) (z:Nf×Nat),Nf.ok z→Nf.ok (lD l z)
 | [],z,h=>by rw[lD];exact h
 | x::_,z,h=>by rw[lD];exact Ew x z h
theorem Ru:∀ (l:List Tr) (z:Nf×Nat),Nf.ok z→Nf.ok (jm l z)
 | [],z,h=>by rw[jm];exact h
 | x::l,z,h=>by rw[jm];exact Ru l _ (Ew x z h)
theorem Rw:∀ (l:List Tr) (y:Nf) (f:Nat) (ends:List Nat),Nf.ok (y,f)→(∀ x∈ends,x<y.states)→(eY l y f ends).1.wf∧∀ x∈(eY l y f ends).2,x<(eY l y f ends).1.states
 | [],y,_,ends,h,he=>by rw[eY];exact⟨h.1,he⟩
 | x::l,y,f,ends,h,he=>by
  rw[eY]
  have h1:=Ew x (y,f) h
  have h2:=h.1.vN h1.1 (lS x (y,f))
  have hf:f<y.states:=h.2
  refine Rw l _ f _ ⟨h1.1,by show f<(aU x (y,f)).1.states;dsimp only at h2;omega⟩ fun e he'=>?_
  rcases List.mem_append.1 he' with he' | he'
  ·have:=he e he';dsimp only at h2;omega
  ·simp at he';subst he';exact h1.2
end
theorem acL(l:List Tr)(hl:l.length≤64):(oP l).1.wf∧0<(oP l).1.states:=by
 have:∀ (l:List Tr) (z:Nf×Nat),z.1.wf→0<z.1.states→z.2+l.length≤64→(l.foldl lJ z).1.wf∧0<(l.foldl lJ z).1.states:=by
  intro l
  induction l with
  | nil=>intro z h1 h2 _;exact⟨h1,h2⟩
  | cons x l ih =>
   intro z h1 h2 h3
   rw[List.length_cons] at h3
   rw[List.foldl_cons]
   have g1:=Ew x (z.1,0) ⟨h1,h2⟩
   have g2:(lJ z x).1.wf:=by
    unfold lJ
    exact(g1.1.state (by omega)).link (by simp only[Nf.state];have:=g1.2;omega) (by simp only[Nf.state];omega)
   exact ih _ g2 (by have:=h1.vN g2 (NG z x);omega) (by unfold lJ;dsimp only;omega)
 exact this l (xJ,0) ⟨rfl,by simp[xJ,Nf.state],by simp[xJ,Nf.state],by simp[xJ,Nf.state]⟩ (by simp[xJ,Nf.state]) (by simpa using hl)
end
end Go.Proofs.YtbemonecmmnlcaaGreatDoor
