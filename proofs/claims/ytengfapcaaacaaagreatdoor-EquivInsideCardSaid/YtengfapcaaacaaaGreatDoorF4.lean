/- The texts of E4, in few letters (mini.py). -/
import Derived.Test.YtengfapcaaacaaaGreatDoorF3
import Derived.ShutString
import Derived.Deep.Slices
set_option linter.unusedVariables false
set_option linter.unusedSimpArgs false
namespace Go.Proofs.YtengfapcaaacaaaGreatDoor
section
def qw(c:Nat):Nat→Nat
 | 0=>0
 | n+1=>c+256*qw c n
def lg(f:Nat→Nat):Nat→Nat→Nat
 | 0,_=>0
 | n+1,x=>f (x % 256)+256*lg f n (x / 256)
theorem acJ(x y:Nat):x &&& y=(x % 256 &&& y % 256)+256*(x / 256 &&& y / 256):=by
 have h1:=Nat.and_mod_two_pow (a:=x) (b:=y) (n:=8)
 have h2:=Nat.and_div_two_pow (a:=x) (b:=y) (n:=8)
 have e:(2:Nat) ^ 8=256:=rfl
 rw[e] at h1 h2
 rw[←h1,←h2]
 omega
theorem CO(c:Nat)(hc:c<256)(n x:Nat):x &&& qw c (n+1)=(x % 256 &&& c)+256*(x / 256 &&& qw c n):=by
 rw[acJ]
 simp only[qw]
 rw[show(c+256*qw c n) % 256=c by omega,show(c+256*qw c n) / 256=qw c n by omega]
def f1(b:Nat):Nat:=(b / 2 &&& 85)+(b &&& 85)
def f2(b:Nat):Nat:=(b / 4 &&& 51)+(b &&& 51)
def pop8(b:Nat):Nat:=(f2 (f1 b) / 16+f2 (f1 b)) % 16
theorem k1:∀ a,a<256→∀ e,e<2→(a / 2+128*e) &&& 85=a / 2 &&& 85:=by decide +kernel
theorem k2:∀ a,a<256→∀ e,e<4→(a / 4+64*e) &&& 51=a / 4 &&& 51:=by decide +kernel
theorem b1:∀ b,b<256→f1 b<256:=by decide +kernel
theorem b2:∀ b,b<256→f2 (f1 b)≤68∧f2 (f1 b) % 16≤4:=by decide +kernel
theorem b3:∀ b,b<256→pop8 b≤8∧pop8 b=((List.range 8).filter fun j=>b.testBit j).length:=by decide +kernel
theorem step1(n:Nat):∀ x,((x / 2) &&& qw 85 n)+(x &&& qw 85 n)=lg f1 n x:=by
 induction n with
 | zero=>intro x;simp[qw,lg]
 | succ n ih =>
  intro x
  rw[CO 85 (by decide),CO 85 (by decide)]
  have e1:x / 2 % 256=x % 256 / 2+128*(x / 256 % 2):=by omega
  have e2:x / 2 / 256=x / 256 / 2:=by omega
  rw[e1,e2,k1 _ (Nat.mod_lt _ (by decide)) _ (Nat.mod_lt _ (by decide))]
  have:=ih (x / 256)
  simp only[lg,f1]
  omega
theorem step2(n:Nat):∀ x,((x / 4) &&& qw 51 n)+(x &&& qw 51 n)=lg f2 n x:=by
 induction n with
 | zero=>intro x;simp[qw,lg]
 | succ n ih =>
  intro x
  rw[CO 51 (by decide),CO 51 (by decide)]
  have e1:x / 4 % 256=x % 256 / 4+64*(x / 256 % 4):=by omega
  have e2:x / 4 / 256=x / 256 / 4:=by omega
  rw[e1,e2,k2 _ (Nat.mod_lt _ (by decide)) _ (Nat.mod_lt _ (by decide))]
  have:=ih (x / 256)
  simp only[lg,f2]
  omega
theorem Zx(f g:Nat→Nat)(hg:∀ b,b<256→g b<256)(n:Nat):∀ x,lg f n (lg g n x)=lg (fun b=>f (g b)) n x:=by
 induction n with
 | zero=>intro x;rfl
 | succ n ih =>
  intro x
  have h:=hg (x % 256) (Nat.mod_lt _ (by decide))
  simp only[lg]
  rw[show(g (x % 256)+256*lg g n (x / 256)) % 256=g (x % 256) by omega,show(g (x % 256)+256*lg g n (x / 256)) / 256=lg g n (x / 256) by omega,ih]
theorem alb(a:Nat):a &&& 15=a % 16:=Nat.and_two_pow_sub_one_eq_mod a 4
theorem acK(h:Nat→Nat)(hh:∀ b,b<256→h b≤68∧h b % 16≤4)(n:Nat)(x:Nat):lg h n x % 16≤4:=by
 cases n with
 | zero=>simp[lg]
 | succ n=>have:=hh (x % 256) (Nat.mod_lt _ (by decide));simp only[lg];omega
theorem step3(h:Nat→Nat)(hh:∀ b,b<256→h b≤68∧h b % 16≤4)(n:Nat):∀ x,(lg h n x / 16+lg h n x) &&& qw 15 n=lg (fun b=>(h b / 16+h b) % 16) n x:=by
 induction n with
 | zero=>intro x;simp[qw,lg]
 | succ n ih =>
  intro x
  have h0:=hh (x % 256) (Nat.mod_lt _ (by decide))
  have hl:=acK h hh n (x / 256)
  have hi:=ih (x / 256)
  rw[CO 15 (by decide)]
  simp only[lg]
  generalize h (x % 256)=a at *
  generalize lg h n (x / 256)=r at *
  rw[alb]
  rw[show((a+256*r) / 16+(a+256*r)) / 256=r / 16+r by omega,hi]
  omega
theorem lZ(n:Nat):∀ x,((List.range (8*n)).filter fun j=>x.testBit j).length=(match n with | 0=>0 | m+1=>((List.range 8).filter fun j=>(x % 256).testBit j).length+((List.range (8*m)).filter fun j=>(x / 256).testBit j).length):=by
 intro x
 cases n with
 | zero=>rfl
 | succ m =>
  simp only
  rw[show 8*(m+1)=8+8*m by omega,List.range_add,List.filter_append,List.length_append,List.filter_map,List.length_map]
  congr 1
  ·refine congrArg List.length (List.filter_congr fun j hj=>?_)
   have:=List.mem_range.1 hj
   rw[show(256:Nat)=2 ^ 8 from rfl,Nat.testBit_mod_two_pow];simp[this]
  ·refine congrArg List.length (List.filter_congr fun j hj=>?_)
   simp only[Function.comp]
   rw[show(256:Nat)=2 ^ 8 from rfl,Nat.testBit_div_two_pow,Nat.add_comm]
theorem Zy(x:Nat):(jL x).length=pop8 (x % 256)+(pop8 (x / 256 % 256)+(pop8 (x / 256 / 256 % 256)+(pop8 (x / 256 / 256 / 256 % 256)+(pop8 (x / 256 / 256 / 256 / 256 % 256)+(pop8 (x / 256 / 256 / 256 / 256 / 256 % 256)+(pop8 (x / 256 / 256 / 256 / 256 / 256 / 256 % 256)+pop8 (x / 256 / 256 / 256 / 256 / 256 / 256 / 256 % 256))))))):=by
 have hb:=fun y=>(b3 (y % 256) (Nat.mod_lt y (by decide))).2
 unfold jL
 rw[show List.range 64=List.range (8*8) from rfl,lZ 8];simp only
 rw[lZ 7];simp only
 rw[lZ 6];simp only
 rw[lZ 5];simp only
 rw[lZ 4];simp only
 rw[lZ 3];simp only
 rw[lZ 2];simp only
 rw[lZ 1 (x / 256 / 256 / 256 / 256 / 256 / 256 / 256)];simp only
 simp only[hb]
 simp
def jC(x:Nat):Nat:=(x / 2 &&& 6148914691236517205)+(x &&& 6148914691236517205)
def mZ(x:Nat):Nat:=(x / 4 &&& 3689348814741910323)+(x &&& 3689348814741910323)
def wO(x:Nat):Nat:=(x / 16+x) &&& 1085102592571150095
theorem agH(x:Nat):wO (mZ (jC x))=lg pop8 8 x:=by
 unfold jC mZ wO
 rw[show 6148914691236517205=qw 85 8 from rfl,show 3689348814741910323=qw 51 8 from rfl,show 1085102592571150095=qw 15 8 from rfl,step1,step2,Zx f2 f1 b1,step3 _ b2]
 rfl
theorem alc(a b c T2 T3 x y:Nat)(ha:a≤8)(hb:b≤8)(hc:c≤8)(hx:x=a+256*(b+256*T2))(hy:y=b+256*(c+256*T3)):(x+y) / 65536=T2+T3:=by omega
theorem ald(l0 l1 l2 l3 t0 t1 t2 t3:Nat)(h0:l0≤134744072)(h1:l1≤134744072)(h2:l2≤134744072)(h3:l3≤134744072) :
  ((l0+4294967296*t0)+(l1+4294967296*t1)+((l2+4294967296*t2)+(l3+4294967296*t3))) / 4294967296=t0+t1+(t2+t3):=by omega
theorem low4(a b c d T:Nat)(ha:a≤8)(hb:b≤8)(hc:c≤8)(hd:d≤8):∃ l,a+256*(b+256*(c+256*(d+256*T)))=l+4294967296*T∧l≤134744072 :=
 ⟨a+256*b+65536*c+16777216*d,by omega,by omega⟩
theorem agI(C U:Nat)(h:C≤64):(C+256*U) % 128=C:=by omega
theorem anY(c0 c1 c2 c3 c4 c5 c6 c7 c:Nat)(g0:c0≤8)(g1:c1≤8)(g2:c2≤8)(g3:c3≤8)(g4:c4≤8)(g5:c5≤8)(g6:c6≤8)(g7:c7≤8)
  (hc:c=c0+256*(c1+256*(c2+256*(c3+256*(c4+256*(c5+256*(c6+256*(c7+256*0)))))))) :
  c≤578721382704613384∧((c+c / 256)+(c+c / 256) / 65536+((c+c / 256)+(c+c / 256) / 65536) / 4294967296) % 128=c0+(c1+(c2+(c3+(c4+(c5+(c6+c7)))))):=by
 have z:(0:Nat)=0+256*(0+256*(0+256*(0+256*0))):=rfl
 obtain⟨t7,h7⟩:∃ t,t=c7+256*0:=⟨_,rfl⟩
 rw[←h7] at hc
 obtain⟨t6,h6⟩:∃ t,t=c6+256*t7:=⟨_,rfl⟩
 rw[←h6] at hc
 obtain⟨t5,h5⟩:∃ t,t=c5+256*t6:=⟨_,rfl⟩
 rw[←h5] at hc
 obtain⟨t4,h4⟩:∃ t,t=c4+256*t5:=⟨_,rfl⟩
 rw[←h4] at hc
 obtain⟨t3,h3⟩:∃ t,t=c3+256*t4:=⟨_,rfl⟩
 rw[←h3] at hc
 obtain⟨t2,h2⟩:∃ t,t=c2+256*t3:=⟨_,rfl⟩
 rw[←h2] at hc
 obtain⟨t1,h1⟩:∃ t,t=c1+256*t2:=⟨_,rfl⟩
 rw[←h1] at hc
 have k7:t7≤8:=by omega
 have k6:t6≤2056:=by omega
 have k5:t5≤526344:=by omega
 have k4:t4≤134744072:=by omega
 have k3:t3≤34494482440:=by omega
 have k2:t2≤8830587504648:=by omega
 have k1:t1≤2260630401189896:=by omega
 have k0:c≤578721382704613384:=by omega
 have e1:c / 256=t1:=by omega
 have e2:(c+t1) / 65536=t2+t3:=alc c0 c1 c2 t2 t3 c t1 g0 g1 g2 (by rw[hc,h1]) (by rw[h1,h2])
 obtain⟨l0,a0,b0⟩:=low4 c0 c1 c2 c3 t4 g0 g1 g2 g3
 obtain⟨l1,a1,b1⟩:=low4 c1 c2 c3 c4 t5 g1 g2 g3 g4
 obtain⟨l2,a2,b2⟩:=low4 c2 c3 c4 c5 t6 g2 g3 g4 g5
 obtain⟨l3,a3,b3⟩:=low4 c3 c4 c5 c6 t7 g3 g4 g5 g6
 rw[←h3,←h2,←h1,←hc] at a0
 rw[←h4,←h3,←h2,←h1] at a1
 rw[←h5,←h4,←h3,←h2] at a2
 rw[←h6,←h5,←h4,←h3] at a3
 have e3:(c+t1+(t2+t3)) / 4294967296=t4+t5+(t6+t7):=by
  rw[a0,a1,a2,a3];exact ald l0 l1 l2 l3 t4 t5 t6 t7 b0 b1 b2 b3
 refine⟨k0,?_⟩
 rw[e1,e2,e3]
 clear a0 a1 a2 a3 b0 b1 b2 b3 e1 e2 e3 k0 k1 k2 k3 k4 k5 k6 k7 z
 have:c+t1+(t2+t3)+(t4+t5+(t6+t7))=(c0+(c1+(c2+(c3+(c4+(c5+(c6+c7)))))))+256*(t1+t2+t3+t4+t5+t6+t7):=by omega
 rw[this]
 exact agI _ _ (by omega)
theorem acL(x:Nat):wO (mZ (jC x))≤578721382704613384∧((wO (mZ (jC x))+wO (mZ (jC x)) / 256)+(wO (mZ (jC x))+wO (mZ (jC x)) / 256) / 65536+((wO (mZ (jC x))+wO (mZ (jC x)) / 256)+(wO (mZ (jC x))+wO (mZ (jC x)) / 256) / 65536) / 4294967296) % 128=(jL x).length:=by
 rw[Zy]
 have hb:=fun y=>(b3 (y % 256) (Nat.mod_lt y (by decide))).1
 refine anY _ _ _ _ _ _ _ _ _ (hb _) (hb _) (hb _) (hb _) (hb _) (hb _) (hb _) (hb _) ?_
 rw[agH]
 simp only[lg]
end
section
open Go.RowKit
def iG(n s:Nat):List Nat:=(List.range n).filter fun i=>s.testBit i
def jM(n:Nat)(st:Nat×List Nat)(s:Nat):Nat×List Nat:=if s<n∧st.1.testBit s=false then (st.1 ||| 1 <<< s,st.2++[s]) else st
def qH(n:Nat)(goes:Nat→List Nat):Nat→Nat×List Nat→Nat
 | 0,st=>st.1
 | f+1,st=>match st.2.getLast? with
  | none=>st.1
  | some s=>qH n goes f ((goes s).foldl (jM n) (st.1,st.2.dropLast))
def fA(S k:Nat):Nat:=S >>> (64*k) % 18446744073709551616
def jq(m S:Nat):List Nat:=(List.range m).map (fA S)
theorem DR(S k:Nat):fA S k<18446744073709551616:=Nat.mod_lt _ (by decide)
theorem uO(S k j:Nat):(fA S k).testBit j=(decide (j<64)&&S.testBit (64*k+j)):=by
 unfold fA
 rw[show(18446744073709551616:Nat)=2 ^ 64 from rfl,Nat.testBit_mod_two_pow,Nat.testBit_shiftRight]
theorem XF(m S:Nat):(jq m S).length=m:=by simp[jq]
theorem J9(m S k:Nat)(h:k<(jq m S).length):(jq m S)[k]=fA S k:=by simp[jq]
theorem Zz(S i k:Nat):fA (S ||| 1 <<< i) k=if k=i / 64 then fA S k ||| 1 <<< (i % 64) else fA S k:=by
 apply Nat.eq_of_testBit_eq
 intro j
 rw[uO,Nat.testBit_or,Nat.one_shiftLeft,Nat.testBit_two_pow]
 split
 ·rename_i h
  subst h
  rw[Nat.testBit_or,uO,Nat.one_shiftLeft,Nat.testBit_two_pow]
  by_cases hj:j<64
  ·have:(i=64*(i / 64)+j)↔(i % 64=j):=by omega
   simp[hj,this]
  ·have:¬ i % 64=j:=by omega
   simp[hj,this]
 ·rename_i h
  rw[uO]
  by_cases hj:j<64
  ·have:¬ i=64*k+j:=by omega
   simp[hj,this]
  ·simp[hj]
theorem XG(m S i:Nat):jq m (S ||| 1 <<< i)=(jq m S).set (i / 64) (fA S (i / 64) ||| 1 <<< (i % 64)):=by
 apply List.ext_getElem
 ·simp[jq]
 ·intro k h1 h2
  rw[J9,List.getElem_set,J9,Zz]
  by_cases h:k=i / 64
  ·rw[if_pos h,if_pos h.symm,h]
  ·rw[if_neg h,if_neg fun e=>h e.symm]
theorem ZA(n S i:Nat)(hi:i<n)(hS:S<2 ^ n):S ||| 1 <<< i<2 ^ n:=by
 apply Nat.or_lt_two_pow hS
 rw[Nat.one_shiftLeft]
 exact Nat.pow_lt_pow_right (by decide) hi
theorem XH(n m S:Nat)(h:n≤m)(hS:S<2 ^ n):iG m S=iG n S:=by
 unfold iG
 obtain⟨d,rfl⟩:∃ d,m=n+d:=⟨m - n,by omega⟩
 rw[List.range_add,List.filter_append]
 have:((List.range d).map (n+·)).filter (fun i=>S.testBit i)=[]:=List.filter_eq_nil_iff.2 fun x hx=>by
  obtain⟨y,_,rfl⟩:=List.mem_map.1 hx
  rw[Nat.testBit_lt_two_pow (Nat.lt_of_lt_of_le hS (Nat.pow_le_pow_right (by decide) (Nat.le_add_right _ _)))]
  simp
 rw[this,List.append_nil]
def xw(S:Nat):Nat→Nat→List Nat
 | _,0=>[]
 | i,f+1=>kN i (fA S i)++xw S (i+1) f
theorem XI(S i:Nat):((List.range 64).map (64*i+·)).filter (fun x=>S.testBit x)=kN i (fA S i):=by
 rw[List.filter_map]
 unfold kN jL
 congr 1
 refine List.filter_congr fun x hx=>?_
 rw[uO];simp[List.mem_range.1 hx]
theorem Ht(S:Nat):∀ (f i:Nat),xw S i f=((List.range (64*f)).map (64*i+·)).filter (fun x=>S.testBit x)
 | 0,i=>by simp[xw]
 | f+1,i=>by
  rw[xw,Ht S f,←XI,show 64*(f+1)=64+64*f by omega,List.range_add,List.map_append,List.filter_append]
  congr 2
  rw[List.map_map]
  refine List.map_congr_left fun x _=>?_
  show 64*(i+1)+x=64*i+(64+x)
  omega
theorem XJ(n m S:Nat)(h:n≤64*m)(hS:S<2 ^ n):iG n S=xw S 0 m:=by
 rw[←XH n _ S h hS,Ht]
 simp[iG]
theorem EZ{n S i:Nat}:i∈iG n S↔i<n∧S.testBit i=true:=by
 unfold iG;rw[List.mem_filter,List.mem_range]
theorem Oq(n S:Nat):(iG n S).length≤n:=by
 have:=List.length_filter_le (fun i=>S.testBit i) (List.range n)
 simpa [iG] using this
theorem acM(n S:Nat)(hS:S<2 ^ n):(iG n S).foldl (fun T i=>T ||| 1 <<< i) 0=S:=by
 have key:∀ (l:List Nat) (T j:Nat),(l.foldl (fun T i=>T ||| 1 <<< i) T).testBit j=(T.testBit j||decide (j∈l)):=by
  intro l
  induction l with
  | nil=>intro T j;simp
  | cons a l ih =>
   intro T j
   rw[List.foldl_cons,ih,Nat.testBit_or,Nat.one_shiftLeft,Nat.testBit_two_pow]
   by_cases h:a=j
   ·subst h;simp
   ·have h':¬ j=a:=fun e=>h e.symm
    simp[h,h']
 apply Nat.eq_of_testBit_eq
 intro j
 rw[key,Nat.zero_testBit,Bool.false_or]
 by_cases hj:j<n
 ·rw[Bool.eq_iff_iff,decide_eq_true_eq,EZ];simp[hj]
 ·have hp:2 ^ n≤2 ^ j:=Nat.pow_le_pow_right (by decide) (by omega)
  rw[Nat.testBit_lt_two_pow (by omega),decide_eq_false]
  rw[EZ];omega
def zH:List UInt8→Nat
 | []=>0
 | b::l=>b.toNat+256*zH l
def oq(w i:Nat):UInt8:=UInt8.ofNat (w >>> (8*i))
def vg(w:Nat):List UInt8:=(List.range 8).map (oq w)
def sD:List Nat→Nat
 | []=>0
 | w::l=>w+18446744073709551616*sD l
def vk(S:Nat):Nat→Nat
 | 0=>0
 | n+1=>if fA S n=0 then vk S n else n+1
def I7(m S:Nat):List UInt8:=(jq (vk S m) S).flatMap vg
theorem Hu:∀ (a b:List UInt8),zH (a++b)=zH a+256 ^ a.length*zH b
 | [],b=>by simp[zH]
 | x::a,b=>by
  rw[List.cons_append,zH,zH,Hu a b,List.length_cons,Nat.pow_succ,Nat.mul_add]
  rw[Nat.mul_comm (256 ^ a.length) 256,Nat.mul_assoc];omega
theorem XK(w:Nat)(h:w<18446744073709551616):zH (vg w)=w:=by
 have e:vg w=[oq w 0,oq w 1,oq w 2,oq w 3,oq w 4,oq w 5,oq w 6,oq w 7]:=rfl
 have f:∀ i,(oq w i).toNat=w / 2 ^ (8*i) % 256:=fun i=>by
  unfold oq;rw[UInt8.toNat_ofNat',Nat.shiftRight_eq_div_pow]
 rw[e]
 simp only[zH,f]
 simp only[Nat.reduceMul,Nat.reducePow,Nat.pow_zero,Nat.div_one,Nat.mul_zero,Nat.add_zero]
 omega
theorem Ko:∀ (l:List Nat),(∀ x∈l,x<18446744073709551616)→zH (l.flatMap vg)=sD l
 | [],_=>rfl
 | w::l,h=>by
  rw[List.flatMap_cons,Hu,XK w (h w (by simp)),sD,Ko l fun x hx=>h x (by simp[hx]),show(vg w).length=8 by simp[vg]]
theorem BL:∀ (a b:List Nat),sD (a++b)=sD a+18446744073709551616 ^ a.length*sD b
 | [],b=>by simp[sD]
 | x::a,b=>by
  rw[List.cons_append,sD,sD,BL a b,List.length_cons,Nat.pow_succ,Nat.mul_add]
  rw[Nat.mul_comm (18446744073709551616 ^ a.length) 18446744073709551616,Nat.mul_assoc];omega
theorem xE(n S:Nat):jq (n+1) S=jq n S++[fA S n]:=by unfold jq;rw[List.range_succ,List.map_append];rfl
theorem QG(S:Nat):∀ m,sD (jq (vk S m) S)=sD (jq m S)
 | 0=>rfl
 | n+1=>by
  rw[vk]
  split
  ·rename_i h
   rw[QG S n,xE,BL,h];simp[sD]
  ·rfl
theorem Kq(S:Nat):∀ m,sD (jq m S)=S % 18446744073709551616 ^ m
 | 0=>by simp[jq,sD,Nat.mod_one]
 | n+1=>by
  rw[xE,BL,Kq S n,XF,sD,sD,Nat.mul_zero,Nat.add_zero,Nat.pow_succ,Nat.mod_mul]
  unfold fA
  rw[Nat.shiftRight_eq_div_pow,Nat.pow_mul]
theorem QH(m S:Nat)(h:S<2 ^ (64*m)):zH (I7 m S)=S:=by
 unfold I7
 rw[Ko _ (fun x hx=>by
  obtain⟨k,_,rfl⟩:=List.mem_map.1 hx
  exact DR _ _),QG,Kq,Nat.mod_eq_of_lt]
 rw[Nat.pow_mul] at h;exact h
theorem acN{m S T:Nat}(hS:S<2 ^ (64*m))(hT:T<2 ^ (64*m))(h:I7 m S=I7 m T):S=T:=by
 rw[←QH m S hS,h,QH m T hT]
def lacks(n S:Nat):Nat:=((List.range n).filter fun i=>!S.testBit i).length
theorem ZB(n S i:Nat)(hi:i<n)(h:S.testBit i=false):lacks n (S ||| 1 <<< i)+1=lacks n S:=by
 have tb:∀ j,(S ||| 1 <<< i).testBit j=(S.testBit j||decide (i=j)):=fun j=>by rw[Nat.testBit_or,Nat.one_shiftLeft,Nat.testBit_two_pow]
 unfold lacks
 obtain⟨d,rfl⟩:∃ d,n=i+1+d:=⟨n - (i+1),by omega⟩
 rw[List.range_add,List.range_succ]
 simp only[List.filter_append,List.length_append]
 have e1:(List.range i).filter (fun j=>!(S ||| 1 <<< i).testBit j)=(List.range i).filter (fun j=>!S.testBit j):=List.filter_congr fun x hx=>by
  rw[tb,decide_eq_false (by have:=List.mem_range.1 hx;omega),Bool.or_false]
 have e2:((List.range d).map (i+1+·)).filter (fun j=>!(S ||| 1 <<< i).testBit j)=((List.range d).map (i+1+·)).filter (fun j=>!S.testBit j):=List.filter_congr fun x hx=>by
  obtain⟨y,_,rfl⟩:=List.mem_map.1 hx
  rw[tb,decide_eq_false (by omega),Bool.or_false]
 have e3:[i].filter (fun j=>!(S ||| 1 <<< i).testBit j)=[]:=by simp[tb]
 have e4:[i].filter (fun j=>!S.testBit j)=[i]:=by simp[h]
 rw[e1,e2,e3,e4]
 simp
 omega
theorem acO(n:Nat)(st:Nat×List Nat)(s:Nat):(jM n st s).2.length+lacks n (jM n st s).1=st.2.length+lacks n st.1:=by
 unfold jM
 split
 ·rename_i h
  have:=ZB n st.1 s h.1 h.2
  simp;omega
 ·rfl
theorem AQ(n:Nat)(l:List Nat)(st:Nat×List Nat):(l.foldl (jM n) st).2.length+lacks n (l.foldl (jM n) st).1=st.2.length+lacks n st.1:=by
 induction l generalizing st with
 | nil=>rfl
 | cons a l ih=>rw[List.foldl_cons,ih,acO]
theorem agJ(n:Nat)(st:Nat×List Nat)(s:Nat)(h:st.1<2 ^ n):(jM n st s).1<2 ^ n:=by
 unfold jM
 split
 ·rename_i h1;exact ZA n _ _ h1.1 h
 ·exact h
theorem QI(n S:Nat):lacks n S≤n:=by
 have:=List.length_filter_le (fun i=>!S.testBit i) (List.range n)
 simpa [lacks] using this
theorem UO(n:Nat)(goes:Nat→List Nat)(f:Nat)(st:Nat×List Nat)(s:Nat)(ws:List Nat)(h:st.2=ws++[s]):qH n goes (f+1) st=qH n goes f ((goes s).foldl (jM n) (st.1,ws)):=by
 rw[qH,h,List.getLast?_concat,List.dropLast_concat]
theorem UQ(n:Nat)(goes:Nat→List Nat)(f:Nat)(st:Nat×List Nat)(h:st.2=[]):qH n goes f st=st.1:=by
 cases f with
 | zero=>rfl
 | succ f=>rw[qH,h];rfl
end
section
open Go.ChangeShapes Go.WideShapes Go.ChangeAt Go.RowKit Go.Deep
section
variable {H:Type} {enc:TypeId×Value→H} {P:Program} {w:World} {base:Nat} {spare:Nat→Bool} {held:Bool} {fuel:Nat} {t e:TypeId} {cs:List Value} {x:DataW H×List MemPlace}
theorem UR{n:Nat}{k:IntKind}(ht:P.underlying t=some (.array n e))(he:P.underlying e=some (.int k))(hc:P.cellsOf e=1)(hct:P.cellsOf t=n)(h:DataW.trod enc P w base spare held fuel t cs=some x) :
  ∃ zs:List Int,zs.length=n∧cs=zs.map (Value.int k)∧∀ z∈zs,(Lit.int k z).wf=true:=by
 obtain⟨xs,m,_,_,hl,hxl,hx⟩:=DataW.trod_array ht h
 rw[hct] at hl
 have key:∀ i,i<n→∃ z:Int,cs[i]?=some (.int k z)∧(Lit.int k z).wf=true:=fun i hi=>by
  have h1:=hx i hi
  rw[hc,Nat.mul_one,List.getElem?_eq_getElem (show i<xs.length by omega)] at h1
  obtain⟨z,h2,_,h3⟩:=DataW.trod_int he h1
  refine⟨z,?_,h3⟩
  have:=congrArg (fun l:List Value=>l[0]?) h2
  simpa using this
 obtain⟨f,hf⟩:=choose_lt key
 refine⟨(List.range n).map f,by simp,?_,fun z hz=>?_⟩
 ·apply List.ext_getElem?
  intro i
  by_cases hi:i<n
  ·rw[(hf i hi).1];simp[hi]
  ·rw[List.getElem?_eq_none (by omega),List.getElem?_eq_none (by simp;omega)]
 ·obtain⟨i,hi,rfl⟩:=List.mem_map.1 hz
  exact(hf i (by simpa using hi)).2
theorem wf_u8{z:Int}(h:(Lit.int .u8 z).wf=true):∃ n:Nat,z=(n:Int)∧n<256:=by
 have:0≤z∧z≤255:=by simpa [Lit.wf,IntKind.min,IntKind.max,IntKind.bits,IntKind.signed] using h
 exact⟨z.toNat,by omega,by omega⟩
theorem ZC(ht:P.underlying t=some (.array 256 e))(he:P.underlying e=some (.int .u8))(hc:P.cellsOf e=1)(hct:P.cellsOf t=256)(h:DataW.trod enc P w base spare held fuel t cs=some x) :
  ∃ f:Nat→Nat,cs=(aG f).toList∧∀ b,f b<256:=by
 obtain⟨zs,hl,rfl,hw⟩:=UR ht he hc hct h
 have hb:∀ i,0≤zs.getD i 0∧zs.getD i 0<256:=fun i=>by
  by_cases hi:i<zs.length
  ·obtain⟨n,hn,hlt⟩:=wf_u8 (hw zs[i] (List.getElem_mem hi))
   simp only[List.getD,List.getElem?_eq_getElem hi,Option.getD_some,hn];omega
  ·simp[List.getD,List.getElem?_eq_none (show zs.length≤i by omega)]
 refine⟨fun i=>(zs.getD i 0).toNat,?_,fun b=>by have:=hb b;show(zs.getD b 0).toNat<256;omega⟩
 apply List.ext_getElem?
 intro i
 by_cases hi:i<256
 ·have:=dG (fun i=>(zs.getD i 0).toNat) i hi
  rw[←Array.getElem?_toList] at this
  rw[this]
  have h1:=hb i
  rw[List.getElem?_map]
  simp only[List.getD] at h1 ⊢
  rw[List.getElem?_eq_getElem (show i<zs.length by omega)] at h1 ⊢
  simp at h1 ⊢
  omega
 ·have h1:(aG fun i=>(zs.getD i 0).toNat).toList[i]?=none:=List.getElem?_eq_none (by rw[Array.length_toList,aU];omega)
  rw[h1,List.getElem?_eq_none (by simp;omega)]
end
end
section
open Go.ChangeShapes Go.WideShapes Go.ChangeAt Go.RowKit Go.Deep
inductive Tr where
 | mk (k:Int) (s:aF) (kids:List Tr) (lo hi:Int)
inductive Vt where
 | mk (k:Int) (s:aF) (a:Option Addr) (cap:Nat) (kids:List Vt) (lo hi:Int)
def Vt.tr:Vt→Tr
 | .mk k s _ _ kids lo hi=>.mk k s (kids.map Vt.tr) lo hi
abbrev aI(k:Int)(s:aF)(a:Option Addr)(n cap:Nat)(lo hi:Int):List Value :=
 [.int .i64 k,.int .u64 (word s 0:Nat),.int .u64 (word s 1:Nat),.int .u64 (word s 2:Nat),.int .u64 (word s 3:Nat),.slice a n cap,.int .i64 lo,.int .i64 hi]
def Vt.cells:Vt→List Value
 | .mk k s a cap kids lo hi=>aI k s a kids.length cap lo hi
def Tr.kids:Tr→List Tr
 | .mk _ _ kids _ _=>kids
theorem Vt.bK(V:Vt):V.cells.length=8:=by cases V;rfl
theorem Vt.cells_one(V:Vt):∀ u∈V.cells,u.oneCell'=true:=by
 obtain⟨k,s,a,cap,kids,lo,hi⟩:=V
 intro u hu
 simp[Vt.cells] at hu
 rcases hu with rfl | rfl | rfl | rfl | rfl | rfl | rfl | rfl <;> rfl
abbrev I64(z:Int):Prop:=-9223372036854775808≤z∧z≤9223372036854775807
inductive Lies (w:World):Vt→Prop
 | mk (k:Int) (s:aF) (a:Option Addr) (cap:Nat) (kids:List Vt) (lo hi:Int) (hk:I64 k) (hlo:I64 lo) (hhi:I64 hi)
   (hs:au w (.slice a kids.length cap) 8 Vt.cells kids) (hkids:∀ i (h:i<kids.length),Lies w kids[i]):Lies w (.mk k s a cap kids lo hi)
theorem Lies.kept{w w':World}{V:Vt}(h:Lies w V)(hb:Below w.heap.size w w'):Lies w' V:=by
 induction h with
 | mk k s a cap kids lo hi hk hlo hhi hs _ ih=>exact .mk k s a cap kids lo hi hk hlo hhi (hs.kept hb) ih
theorem Lies.open{w:World}{k:Int}{s:aF}{a:Option Addr}{cap:Nat}{kids:List Vt}{lo hi:Int}(h:Lies w (.mk k s a cap kids lo hi)) :
  I64 k∧I64 lo∧I64 hi∧au w (.slice a kids.length cap) 8 Vt.cells kids∧∀ i (h:i<kids.length),Lies w kids[i]:=by
 cases h with
 | mk _ _ _ _ _ _ _ hk hlo hhi hs hkids=>exact⟨hk,hlo,hhi,hs,hkids⟩
theorem Lies.drew{w:World}{V:Vt}(h:Lies w V):Lies w.drew V:=by
 induction h with
 | mk k s a cap kids lo hi hk hlo hhi hs _ ih=>exact .mk k s a cap kids lo hi hk hlo hhi hs ih
theorem Vt.ind{M:Vt→Prop}(h:∀ k s a cap kids lo hi,(∀ i (h:i<kids.length),M kids[i])→M (.mk k s a cap kids lo hi)):∀ V,M V
 | .mk k s a cap kids lo hi=>h k s a cap kids lo hi (fun i hi=>Vt.ind h kids[i])
termination_by V=>SizeOf.sizeOf V
decreasing_by
 have:=List.sizeOf_lt_of_mem (List.getElem_mem hi)
 simp only[Vt.mk.sizeOf_spec]
 omega
theorem Tr.ind{M:Tr→Prop}(h:∀ k s kids lo hi,(∀ i (h:i<kids.length),M kids[i])→M (.mk k s kids lo hi)):∀ V,M V
 | .mk k s kids lo hi=>h k s kids lo hi (fun i hi=>Tr.ind h kids[i])
termination_by V=>SizeOf.sizeOf V
decreasing_by
 have:=List.sizeOf_lt_of_mem (List.getElem_mem hi)
 simp only[Tr.mk.sizeOf_spec]
 omega
theorem Vt.jU(k:Int)(s:aF)(a:Option Addr)(cap:Nat)(kids:List Vt)(lo hi:Int):(Vt.mk k s a cap kids lo hi).tr=.mk k s (kids.map Vt.tr) lo hi:=by rw[Vt.tr]
mutual
def eqT:Tr→Tr→Bool
 | .mk k s l lo hi,.mk k' s' l' lo' hi'=>decide (k=k')&&decide (s=s')&&decide (lo=lo')&&decide (hi=hi')&&ahz l l'
def ahz:List Tr→List Tr→Bool
 | [],[]=>true
 | a::l,b::m=>eqT a b&&ahz l m
 | [],_::_=>false
 | _::_,[]=>false
end
theorem qI{w:World}{b o:Nat}{k:Int}{s:aF}{a:Option Addr}{n cap:Nat}{lo hi:Int}(h:∀ j u,(aI k s a n cap lo hi)[j]?=some u→w.cell? ⟨b,o+j,none⟩=some u) :
  w.cell? ⟨b,o,none⟩=some (.int .i64 k)∧w.cell? ⟨b,o+1,none⟩=some (.int .u64 (word s 0:Nat))∧w.cell? ⟨b,o+2,none⟩=some (.int .u64 (word s 1:Nat)) ∧
  w.cell? ⟨b,o+3,none⟩=some (.int .u64 (word s 2:Nat))∧w.cell? ⟨b,o+4,none⟩=some (.int .u64 (word s 3:Nat))∧w.cell? ⟨b,o+5,none⟩=some (.slice a n cap) ∧
  w.cell? ⟨b,o+6,none⟩=some (.int .i64 lo)∧w.cell? ⟨b,o+7,none⟩=some (.int .i64 hi) :=
 ⟨h 0 _ rfl,h 1 _ rfl,h 2 _ rfl,h 3 _ rfl,h 4 _ rfl,h 5 _ rfl,h 6 _ rfl,h 7 _ rfl⟩
theorem Box.node{w:World}{b E:Nat}{k:Int}{s:aF}{a:Option Addr}{n cap:Nat}{lo hi:Int}(h:Box w b (aI k s a n cap lo hi).toArray E) :
  w.cell? ⟨b,0,none⟩=some (.int .i64 k)∧w.cell? ⟨b,1,none⟩=some (.int .u64 (word s 0:Nat))∧w.cell? ⟨b,2,none⟩=some (.int .u64 (word s 1:Nat)) ∧
  w.cell? ⟨b,3,none⟩=some (.int .u64 (word s 2:Nat))∧w.cell? ⟨b,4,none⟩=some (.int .u64 (word s 3:Nat))∧w.cell? ⟨b,5,none⟩=some (.slice a n cap) ∧
  w.cell? ⟨b,6,none⟩=some (.int .i64 lo)∧w.cell? ⟨b,7,none⟩=some (.int .i64 hi) :=
 ⟨h.cell 0,h.cell 1,h.cell 2,h.cell 3,h.cell 4,h.cell 5,h.cell 6,h.cell 7⟩
theorem au.kids{w:World}{a:Option Addr}{cap:Nat}{kids:List Vt}(h:au w (.slice a kids.length cap) 8 Vt.cells kids) :
  ∃ b o,kids.length≤cap∧cap≤9223372036854775807∧(∀ i,i<kids.length→a=some ⟨b,o,none⟩)∧(0<kids.length→b<w.heap.size) ∧
   ∀ i (h:i<kids.length) (w':World),Below w.heap.size w w'→∀ j u,(kids[i].cells)[j]?=some u→w'.cell? ⟨b,o+i*8+j,none⟩=some u:=by
 obtain⟨b,o,_,h2,h3,h4,h5⟩:=h.open
 refine⟨b,o,h2,h3,h4,fun h0=>?_,fun i hi w' hB j u hu=>?_⟩
 ·have:0<(kids[0].cells).length:=by rw[Vt.bK];omega
  exact World.block_lt_of_cell? w _ (h5 0 h0 0 _ (List.getElem?_eq_getElem this))
 ·have:=h5 i hi j u hu
  rw[hB.cell (World.block_lt_of_cell? w _ this)];exact this
structure apN(P:Program)(tN tK tS tU tL tI:TypeId)(fs:Array Field):Prop where
 node:P.underlying tN=some (.struct fs)
 ahA:fs.map (fun f=>(f.type,f.offset))=#[(tK,0),(tS,1),(tL,5),(tI,6),(tI,7)]
 kind:P.underlying tK=some (.int .i64)
 set:P.underlying tS=some (.array 4 tU)
 word:P.underlying tU=some (.int .u64)
 list:P.underlying tL=some (.slice tN)
 int:P.underlying tI=some (.int .i64)
 cN:P.cellsOf tN=8
 cK:P.cellsOf tK=1
 cS:P.cellsOf tS=4
 cU:P.cellsOf tU=1
 cL:P.cellsOf tL=1
 cI:P.cellsOf tI=1
section
variable {H:Type} {enc:TypeId×Value→H} {P:Program} {w:World} {base:Nat} {spare:Nat→Bool} {held:Bool} {tN tK tS tU tL tI:TypeId} {fs:Array Field}
end
end
section
open Go.RowKit
inductive On (S:Nat→Prop):Vt→Prop
 | mk (k:Int) (s:aF) (a:Option Addr) (cap:Nat) (kids:List Vt) (lo hi:Int) (h:0<kids.length→∀ ad,a=some ad→S ad.block) (hk:∀ i (h:i<kids.length),On S kids[i]):On S (.mk k s a cap kids lo hi)
theorem On.mono{S S':Nat→Prop}{V:Vt}(h:On S V)(hs:∀ b,S b→S' b):On S' V:=by
 induction h with
 | mk k s a cap kids lo hi h _ ih=>exact .mk k s a cap kids lo hi (fun h0 ad ha=>hs _ (h h0 ad ha)) ih
theorem On.and{S S':Nat→Prop}{V:Vt}(h:On S V)(h':On S' V):On (fun b=>S b∧S' b) V:=by
 induction h with
 | mk k s a cap kids lo hi h _ ih =>
  cases h' with
  | mk _ _ _ _ _ _ _ h2 k2=>exact .mk k s a cap kids lo hi (fun h0 ad ha=>⟨h h0 ad ha,h2 h0 ad ha⟩) fun i hi=>ih i hi (k2 i hi)
theorem au.blk{α:Type}{w:World}{ad:Addr}{n cap size:Nat}{enc:α→List Value}{xs:List α}(h:au w (.slice (some ad) n cap) size enc xs)(h0:0<xs.length)(he:0<(enc xs[0]).length):ad.block<w.heap.size:=by
 obtain⟨b,o,_,_,_,ha,hx⟩:=h.open
 obtain rfl:=Option.some.inj (ha 0 h0)
 have:=World.block_lt_of_cell? w _ (hx 0 h0 0 _ (List.getElem?_eq_getElem he))
 exact this
theorem Lies.on{w:World}{V:Vt}(h:Lies w V):On (fun b=>b<w.heap.size) V:=by
 induction h with
 | mk k s a cap kids lo hi _ _ _ hs _ ih=>exact .mk k s a cap kids lo hi (fun h0 ad ha=>by subst ha;exact hs.blk h0 (by rw[Vt.bK];decide)) ih
theorem au.fK{α:Type}{w w':World}{a:Option Addr}{n cap size:Nat}{enc:α→List Value}{xs:List α}(h:au w (.slice a n cap) size enc xs)(hb:0<xs.length→∀ ad,a=some ad→w'.heap[ad.block]?=w.heap[ad.block]?):au w' (.slice a n cap) size enc xs:=by
 obtain⟨a',b,o,cap',hv,hl,hc,ha,hx⟩:=h
 obtain⟨rfl,rfl,rfl⟩:=Value.slice.inj hv
 refine⟨a,b,o,cap,rfl,hl,hc,ha,fun i hi j u hu=>?_⟩
 rcases ha with rfl | ⟨rfl,_⟩
 ·rw[←hx i hi j u hu]
  exact World.cell?_of_block (a:=⟨b,o+i*size+j,none⟩) (hb (by omega) ⟨b,o,none⟩ rfl)
 ·simp at hi
theorem Lies.fK{w w':World}{S:Nat→Prop}{V:Vt}(h:Lies w V)(ho:On S V)(hb:∀ b,S b→w'.heap[b]?=w.heap[b]?):Lies w' V:=by
 induction h with
 | mk k s a cap kids lo hi h1 h2 h3 hs _ ih =>
  cases ho with
  | mk _ _ _ _ _ _ _ g1 g2=>exact .mk k s a cap kids lo hi h1 h2 h3 (hs.fK fun h0 ad ha=>hb _ (g1 h0 ad ha)) fun i hi=>ih i hi (g2 i hi)
theorem DT:dX Vt.cells 8:=⟨Vt.bK,Vt.cells_one⟩
def vw(w:World)(base E:Nat)(v:Value)(vs:List Vt):Prop :=
 Own w base E 8 Vt.cells v vs∧(∀ i (h:i<vs.length),Lies w vs[i])∧∀ i (h:i<vs.length),On (fun b=>v.ownBlock≠some b) vs[i]
theorem vw.kept{w w':World}{base E:Nat}{v:Value}{vs:List Vt}(h:vw w base E v vs)(hb:Below w.heap.size w w'):vw w' base E v vs :=
 ⟨h.1.kept hb,fun i hi=>(h.2.1 i hi).kept hb,h.2.2⟩
theorem vw.nil(w:World)(base E:Nat):vw w base E (.slice none 0 0) []:=⟨Own.nil _ _ _ _ _,fun i h=>by simp at h,fun i h=>by simp at h⟩
theorem vw.appended{w w':World}{base E:Nat}{v v':Value}{vs:List Vt}{y:Vt}(h:vw w base E v vs)(hy:Lies w y)(hoy:On (fun b=>v.ownBlock≠some b) y)
  (ho:Own w' base E 8 Vt.cells v' (vs++[y])) (hg:w.grownBy w' v.ownBlock) (hb:v'.ownBlock=v.ownBlock∨v'.ownBlock=some w.heap.size):vw w' base E v' (vs++[y]):=by
 have key:∀ V:Vt,Lies w V→On (fun b=>v.ownBlock≠some b) V→Lies w' V∧On (fun b=>v'.ownBlock≠some b) V:=fun V h1 h2=>by
  have h3:=h2.and h1.on
  refine⟨h1.fK h3 fun b ⟨hb1,hb2⟩=>hg.block b hb2 (fun e=>hb1 e.symm),h3.mono fun b ⟨hb1,hb2⟩=>?_⟩
  rcases hb with hb | hb
  ·rw[hb];exact hb1
  ·rw[hb];intro e;have:=Option.some.inj e;omega
 refine⟨ho,fun i hi=>?_,fun i hi=>?_⟩
 ·by_cases hlt:i<vs.length
  ·rw[List.getElem_append_left hlt];exact(key _ (h.2.1 i hlt) (h.2.2 i hlt)).1
  ·have:i=vs.length:=by simp at hi;omega
   subst this;simpa using (key y hy hoy).1
 ·by_cases hlt:i<vs.length
  ·rw[List.getElem_append_left hlt];exact(key _ (h.2.1 i hlt) (h.2.2 i hlt)).2
  ·have:i=vs.length:=by simp at hi;omega
   subst this;simpa using (key y hy hoy).2
theorem vw.slice{w:World}{base E:Nat}{a:Option Addr}{n cap:Nat}{vs:List Vt}(h:vw w base E (.slice a n cap) vs):au w (.slice a n cap) 8 Vt.cells vs:=h.1.slice DT
def QJ(w:World)(A:Tr)(e:Ending)(w':World):Prop :=
 ∃ V:Vt,e=.returned (.agg V.cells.toArray)∧V.tr=A∧Lies w' V∧On (fun b=>w.heap.size≤b) V∧Below w.heap.size w w'
def ahB(w:World)(A:Tr)(e:Ending)(w':World):Prop :=
 ∃ V:Vt,e=.returned (.agg V.cells.toArray)∧V.tr=A∧Lies w' V∧Below w.heap.size w w'
theorem QJ.open{w w':World}{A:Tr}{e:Ending}(h:QJ w A e w'):∃ (k:Int) (s:aF) (a:Option Addr) (cap:Nat) (kids:List Vt) (lo hi:Int),e=.returned (.agg (aI k s a kids.length cap lo hi).toArray) ∧
  (Vt.mk k s a cap kids lo hi).tr=A∧Lies w' (.mk k s a cap kids lo hi)∧On (fun b=>w.heap.size≤b) (.mk k s a cap kids lo hi)∧Below w.heap.size w w':=by
 obtain⟨⟨k,s,a,cap,kids,lo,hi⟩,h1,h2,h3,h4,h5⟩:=h
 exact⟨k,s,a,cap,kids,lo,hi,h1,h2,h3,h4,h5⟩
theorem ahB.open{w w':World}{A:Tr}{e:Ending}(h:ahB w A e w'):∃ (k:Int) (s:aF) (a:Option Addr) (cap:Nat) (kids:List Vt) (lo hi:Int),e=.returned (.agg (aI k s a kids.length cap lo hi).toArray) ∧
  (Vt.mk k s a cap kids lo hi).tr=A∧Lies w' (.mk k s a cap kids lo hi)∧Below w.heap.size w w':=by
 obtain⟨⟨k,s,a,cap,kids,lo,hi⟩,h1,h2,h3,h5⟩:=h
 exact⟨k,s,a,cap,kids,lo,hi,h1,h2,h3,h5⟩
def AU(B:Nat)(w w':World):Prop:=∀ b,B≤b→w'.heap[b]?=w.heap[b]?
theorem AU.refl(B:Nat)(w:World):AU B w w:=fun _ _=>rfl
theorem AU.set{B:Nat}{w w':World}(h:AU B w w'){a:Addr}(ha:a.block<B)(v:Value):AU B w (w'.setCell a v):=fun b hb=>(heap_setCell_other w' a b v (by omega)).trans (h b hb)
theorem Lies.above{w w':World}{B:Nat}{V:Vt}(h:Lies w V)(ho:On (fun b=>B≤b) V)(hb:AU B w w'):Lies w' V:=h.fK ho hb
theorem Own.above{α:Type}{w w':World}{base B E size:Nat}{enc:α→List Value}{v:Value}{xs:List α}(h:Own w base E size enc v xs)(hB:B≤base)(hb:AU B w w'):Own w' base E size enc v xs:=by
 obtain⟨a,cap,hv,hle,hm,hh⟩:=h
 refine⟨a,cap,hv,hle,hm,?_⟩
 rcases hh with hh | ⟨g,cur,ha,hbg,hg,hr⟩
 ·exact .inl hh
 ·exact .inr ⟨g,cur,ha,hbg,(hb g (by omega)).trans hg,hr⟩
theorem vw.node{w w':World}{base B E:Nat}{a:Option Addr}{cap:Nat}{vs:List Vt}(h:vw w base E (.slice a vs.length cap) vs)(hon:∀ i (h:i<vs.length),On (fun b=>B≤b) vs[i])(hB:B≤base)(hb:AU B w w')
  (k:Int) (s:aF) (lo hi:Int) (hk:I64 k) (hlo:I64 lo) (hhi:I64 hi):Lies w' (.mk k s a cap vs lo hi)∧On (fun b=>B≤b) (.mk k s a cap vs lo hi):=by
 refine⟨.mk k s a cap vs lo hi hk hlo hhi ((h.1.above hB hb).slice DT) fun i hi=>(h.2.1 i hi).above (hon i hi) hb,.mk k s a cap vs lo hi (fun h0 ad ha=>?_) hon⟩
 obtain⟨g,hg,hbg,_⟩:=h.1.addr h0
 rw[hg] at ha
 obtain rfl:=Option.some.inj ha
 exact Nat.le_trans hB hbg
theorem Box.vC{w:World}{b E:Nat}{c:Array Value}(h:Box w b c E):w.frozen? ⟨b,0,none⟩=false∧w.frozen? ⟨b,1,none⟩=false∧w.frozen? ⟨b,2,none⟩=false∧w.frozen? ⟨b,3,none⟩=false∧w.frozen? ⟨b,4,none⟩=false∧w.frozen? ⟨b,5,none⟩=false∧w.frozen? ⟨b,6,none⟩=false∧w.frozen? ⟨b,7,none⟩=false :=
 ⟨h.free 0,h.free 1,h.free 2,h.free 3,h.free 4,h.free 5,h.free 6,h.free 7⟩
mutual
def sizeT:Tr→Nat
 | .mk _ _ l _ _=>1+pR l
def pR:List Tr→Nat
 | []=>0
 | a::l=>sizeT a+pR l
end
theorem ZE(A:Tr):1≤sizeT A:=by cases A;simp[sizeT]
theorem Kr(l:List Tr):l.length≤pR l:=by
 induction l with
 | nil=>simp[pR]
 | cons a l ih=>have:=ZE a;simp[pR];omega
theorem XL(l:List Tr)(i:Nat)(h:i<l.length):sizeT l[i]≤pR l:=by
 induction l generalizing i with
 | nil=>simp at h
 | cons a l ih =>
  cases i with
  | zero=>simp[pR]
  | succ i=>have:=ih i (by simpa using h);simp[pR];omega
end
section
open Go.RowKit
structure Nf where
 states:Nat
 links:List (Nat×Nat)
 edges:List (Nat×aF×Nat)
 accept:List Nat
def Nf.state(y:Nf)(k:Nat):Nf:={ y with states:=y.states+1,accept:=y.accept++[k] }
def Nf.link(y:Nf)(a b:Nat):Nf:={ y with links:=y.links++[(a,b)] }
def Nf.edge(y:Nf)(a:Nat)(s:aF)(b:Nat):Nf:={ y with edges:=y.edges++[(a,s,b)] }
def aJ:Nat:=1099511627776
def addN(a b:Nat):Nat:=if aJ - a<b then aJ else a+b
def mulN(a b:Nat):Nat:=if a=0∨b=0 then 0 else if aJ / b<a then aJ else a*b
mutual
def bD:Tr→Nat
 | .mk k _ kids lo hi =>
  if k=2∨k=4 then bQ 0 kids
  else if k=9 then
   (let n:=bQ 0 kids
    if n=0 then 0 else if hi<0 then addN (addN (mulN lo.toNat n) n) 1 else if lo<hi then addN (addN (mulN lo.toNat n) (mulN (hi - lo).toNat n)) 1 else mulN lo.toNat n)
  else addN (bQ 0 kids) 1
def bQ:Nat→List Tr→Nat
 | acc,[]=>acc
 | acc,x::l=>bQ (addN acc (bD x)) l
end
def bT(f:Nf×Nat→Nf×Nat):Nat→Nf×Nat→Nf×Nat
 | 0,x=>x
 | n+1,x=>bT f n (f x)
def rH(plus:Bool)(f:Nf×Nat→Nf×Nat)(z:Nf×Nat):Nf×Nat :=
 let r:=f ((z.1.state 0).link z.2 z.1.states,z.1.states)
 (r.1.link r.2 z.1.states,if plus then r.2 else z.1.states)
mutual
def bH:Tr→Nf×Nat→Nf×Nat
 | .mk k s kids lo hi,(y,at') =>
  if k=4 then kF kids (y,at')
  else if k=5 then
   (let r:=gy kids y at' []
    (r.2.foldl (fun z e=>z.link e r.1.states) (r.1.state 0),r.1.states))
  else if k=6∨k=7 then rH (k=7) (nV kids) (y,at')
  else if k=8 then
   (let r:=nV kids (y,at')
    (((r.1.state 0).link r.2 r.1.states).link at' r.1.states,r.1.states))
  else if k=9 then
   (if bQ 0 kids=0 then (y,at') else
    let r:=bT (nV kids) lo.toNat (y,at')
    if hi<0 then rH false (nV kids) r
    else if hi=lo then r
    else
     let e:=bT (fun z=>nV kids (z.1.link z.2 r.1.states,z.2)) (hi - lo).toNat (r.1.state 0,r.2)
     (e.1.link e.2 r.1.states,r.1.states))
  else if k=2 then (y,at')
  else if k=3 then ((y.state 0).edge at' s y.states,y.states)
  else (y.state 0,y.states)
termination_by structural x=>x
def nV:List Tr→Nf×Nat→Nf×Nat
 | [],z=>z
 | x::_,z=>bH x z
termination_by structural x=>x
def kF:List Tr→Nf×Nat→Nf×Nat
 | [],z=>z
 | x::l,z=>kF l (bH x z)
termination_by structural x=>x
def gy:List Tr→Nf→Nat→List Nat→Nf×List Nat
 | [],y,_,ends=>(y,ends)
 | x::l,y,at',ends=>gy l (bH x (y,at')).1 at' (ends++[(bH x (y,at')).2])
termination_by structural x=>x
end
end
section
open Go.RowKit
def Nf.small(N:Nf):Prop:=N.links.length≤1099511627776∧N.edges.length≤1099511627776∧N.accept.length≤1099511627776
def Nf.le(A B:Nf):Prop:=A.links.length≤B.links.length∧A.edges.length≤B.edges.length∧A.accept.length≤B.accept.length
theorem Nf.le.refl(A:Nf):A.le A:=⟨Nat.le_refl _,Nat.le_refl _,Nat.le_refl _⟩
theorem Nf.le.trans{A B C:Nf}(h:A.le B)(k:B.le C):A.le C:=⟨Nat.le_trans h.1 k.1,Nat.le_trans h.2.1 k.2.1,Nat.le_trans h.2.2 k.2.2⟩
theorem Nf.le.small{A B:Nf}(h:A.le B)(k:B.small):A.small:=⟨Nat.le_trans h.1 k.1,Nat.le_trans h.2.1 k.2.1,Nat.le_trans h.2.2 k.2.2⟩
theorem Nf.iU(A:Nf)(k:Nat):A.le (A.state k):=⟨Nat.le_refl _,Nat.le_refl _,by simp[Nf.state]⟩
theorem Nf.jd(A:Nf)(a b:Nat):A.le (A.link a b):=⟨by simp[Nf.link],Nat.le_refl _,Nat.le_refl _⟩
theorem Nf.Nc(A:Nf)(a:Nat)(s:aF)(b:Nat):A.le (A.edge a s b):=⟨Nat.le_refl _,by simp[Nf.edge],Nat.le_refl _⟩
theorem AV(f:Nf×Nat→Nf×Nat)(hf:∀ z:Nf×Nat,z.1.le (f z).1):∀ (n:Nat) (z:Nf×Nat),z.1.le (bT f n z).1
 | 0,z=>by rw[bT];exact .refl _
 | n+1,z=>by rw[bT];exact(hf z).trans (AV f hf n _)
theorem sQ(f:Nf×Nat→Nf×Nat):∀ n z,bT f (n+1) z=f (bT f n z)
 | 0,z=>by rw[bT,bT,bT]
 | n+1,z=>by rw[bT,sQ f n,←bT]
theorem I8(p:Bool)(f:Nf×Nat→Nf×Nat)(hf:∀ z:Nf×Nat,z.1.le (f z).1)(z:Nf×Nat):z.1.le (rH p f z).1:=by
 unfold rH
 dsimp only
 exact((Nf.iU z.1 0).trans (Nf.jd _ z.2 z.1.states)).trans ((hf ((z.1.state 0).link z.2 z.1.states,z.1.states)).trans (Nf.jd _ _ _))
theorem I9(l:List Nat)(b:Nat):∀ (N:Nf),N.le (l.foldl (fun z e=>z.link e b) N):=by
 induction l with
 | nil=>intro N;exact .refl _
 | cons e l ih=>intro N;rw[List.foldl_cons];exact(Nf.jd _ _ _).trans (ih _)
mutual
theorem oC:∀ (t:Tr) (z:Nf×Nat),z.1.le (bH t z).1
 | .mk k s kids lo hi,(y,f)=>by
  rw[bH]
  split
  ·exact Nh kids _
  split
  ·exact(Nj kids y f []).trans ((Nf.iU _ _).trans (I9 _ _ _))
  split
  ·exact I8 _ _ (fun z=>rJ kids z) _
  split
  ·exact(rJ kids _).trans ((Nf.iU _ _).trans ((Nf.jd _ _ _).trans (Nf.jd _ _ _)))
  split
  ·split
   ·exact .refl _
   ·dsimp only
    have h1:=AV (nV kids) (fun z=>rJ kids z) lo.toNat (y,f)
    split
    ·exact h1.trans (I8 _ _ (fun z=>rJ kids z) _)
    ·split
     ·exact h1
     ·exact h1.trans ((Nf.iU _ 0).trans ((AV _ (fun z=>(Nf.jd _ _ _).trans (rJ kids (_,_))) _ (_,_)).trans (Nf.jd _ _ _)))
  split
  ·exact .refl _
  split
  ·exact(Nf.iU _ 0).trans (Nf.Nc _ _ _ _)
  ·exact Nf.iU _ 0
theorem rJ:∀ (l:List Tr) (z:Nf×Nat),z.1.le (nV l z).1
 | [],z=>by rw[nV];exact .refl _
 | x::_,z=>by rw[nV];exact oC x z
theorem Nh:∀ (l:List Tr) (z:Nf×Nat),z.1.le (kF l z).1
 | [],z=>by rw[kF];exact .refl _
 | x::l,z=>by rw[kF];exact(oC x z).trans (Nh l _)
theorem Nj:∀ (l:List Tr) (y:Nf) (f:Nat) (ends:List Nat),y.le (gy l y f ends).1
 | [],y,_,_=>by rw[gy];exact .refl _
 | x::l,y,f,ends=>by rw[gy];exact(oC x (y,f)).trans (Nj l _ f _)
end
theorem BM:∀ (l m:List Tr) (z:Nf×Nat),kF (l++m) z=kF m (kF l z)
 | [],m,z=>by rw[List.nil_append,kF]
 | x::l,m,z=>by rw[List.cons_append,kF,kF,BM l m]
theorem ZF(l:List Tr)(k:Nat)(h:k<l.length)(z:Nf×Nat):kF (l.take (k+1)) z=bH l[k] (kF (l.take k) z):=by
 rw[List.take_succ_eq_append_getElem h,BM,kF,kF]
theorem QK(l:List Tr)(k:Nat)(z:Nf×Nat):(kF (l.take k) z).1.le (kF l z).1:=by
 conv=>rhs;rw[←List.take_append_drop k l]
 rw[BM];exact Nh _ _
theorem BN:∀ (l m:List Tr) (y:Nf) (f:Nat) (ends:List Nat),gy (l++m) y f ends=gy m (gy l y f ends).1 f (gy l y f ends).2
 | [],m,y,f,ends=>by rw[List.nil_append,gy]
 | x::l,m,y,f,ends=>by rw[List.cons_append,gy,BN l m,gy]
theorem ZG(l:List Tr)(k:Nat)(h:k<l.length)(y:Nf)(f:Nat)(ends:List Nat) :
  gy (l.take (k+1)) y f ends=((bH l[k] ((gy (l.take k) y f ends).1,f)).1,(gy (l.take k) y f ends).2++[(bH l[k] ((gy (l.take k) y f ends).1,f)).2]):=by
 rw[List.take_succ_eq_append_getElem h,BN,gy,gy]
theorem QL(l:List Tr)(k:Nat)(y:Nf)(f:Nat)(ends:List Nat):(gy (l.take k) y f ends).1.le (gy l y f ends).1:=by
 conv=>rhs;rw[←List.take_append_drop k l]
 rw[BN];exact Nj _ _ _ _
theorem Ja:∀ (l:List Tr) (y:Nf) (f:Nat) (ends:List Nat),(gy l y f ends).2.length=ends.length+l.length
 | [],y,f,ends=>by rw[gy];rfl
 | x::l,y,f,ends=>by rw[gy,Ja l,List.length_append,List.length_cons];simp;omega
end
section
open Go.RowKit
def ou(z:Nf×Nat)(t:Tr):Nf×Nat:=(((bH t (z.1,0)).1.state (z.2+1)).link (bH t (z.1,0)).2 (bH t (z.1,0)).1.states,z.2+1)
def zI:Nf:=(⟨0,[],[],[]⟩:Nf).state 0
def qJ(l:List Tr):Nf×Nat:=l.foldl ou (zI,0)
def sF(l:List Tr):Nf:=(qJ l).1
theorem QM(z:Nf×Nat)(t:Tr):z.1.le (ou z t).1:=(oC t (z.1,0)).trans ((Nf.iU _ _).trans (Nf.jd _ _ _))
theorem QN:∀ (l:List Tr) (z:Nf×Nat),z.1.le (l.foldl ou z).1
 | [],_=>.refl _
 | x::l,z=>(QM z x).trans (QN l _)
theorem ZH(l:List Tr)(k:Nat)(h:k<l.length):qJ (l.take (k+1))=ou (qJ (l.take k)) l[k]:=by
 unfold qJ;rw[List.take_succ_eq_append_getElem h,List.foldl_append];rfl
theorem QO(l:List Tr)(k:Nat):(qJ (l.take k)).1.le (qJ l).1:=by
 unfold qJ
 conv=>rhs;rw[←List.take_append_drop k l]
 rw[List.foldl_append];exact QN _ _
theorem acP(l:List Tr):(qJ l).2=l.length:=by
 have:∀ (l:List Tr) (z:Nf×Nat),(l.foldl ou z).2=z.2+l.length:=by
  intro l
  induction l with
  | nil=>intro z;rfl
  | cons x l ih=>intro z;rw[List.foldl_cons,ih,List.length_cons,ou];dsimp only;omega
 unfold qJ;rw[this];simp
structure Nf.wf(N:Nf):Prop where
 st:N.states=N.accept.length
 links:∀ x∈N.links,x.1<N.states∧x.2<N.states
 edges:∀ x∈N.edges,x.1<N.states∧x.2.2<N.states
 accept:∀ x∈N.accept,x≤64
def Nf.ok(z:Nf×Nat):Prop:=z.1.wf∧z.2<z.1.states
theorem Nf.wf.state{N:Nf}(h:N.wf){k:Nat}(hk:k≤64):(N.state k).wf:=by
 refine⟨?_,fun x hx=>?_,fun x hx=>?_,fun x hx=>?_⟩
 ·simp[Nf.state,h.st]
 ·have:=h.links x hx;simp only[Nf.state];omega
 ·have:=h.edges x hx;simp only[Nf.state];omega
 ·rcases List.mem_append.1 hx with hx | hx
  ·exact h.accept x hx
  ·simp at hx;omega
theorem Nf.wf.link{N:Nf}(h:N.wf){a b:Nat}(ha:a<N.states)(hb:b<N.states):(N.link a b).wf:=by
 refine⟨h.st,fun x hx=>?_,h.edges,h.accept⟩
 rcases List.mem_append.1 hx with hx | hx
 ·exact h.links x hx
 ·simp at hx;subst hx;exact⟨ha,hb⟩
theorem Nf.wf.edge{N:Nf}(h:N.wf){a b:Nat}{s:aF}(ha:a<N.states)(hb:b<N.states):(N.edge a s b).wf:=by
 refine⟨h.st,h.links,fun x hx=>?_,h.accept⟩
 rcases List.mem_append.1 hx with hx | hx
 ·exact h.edges x hx
 ·simp at hx;subst hx;exact⟨ha,hb⟩
theorem Nf.wf.yj{A B:Nf}(h:A.wf)(k:B.wf)(l:A.le B):A.states≤B.states:=by rw[h.st,k.st];exact l.2.2
theorem Ot(f:Nf×Nat→Nf×Nat)(hf:∀ z,Nf.ok z→Nf.ok (f z)):∀ (n:Nat) (z:Nf×Nat),Nf.ok z→Nf.ok (bT f n z)
 | 0,z,h=>by rw[bT];exact h
 | n+1,z,h=>by rw[bT];exact Ot f hf n _ (hf z h)
theorem QS(p:Bool)(f:Nf×Nat→Nf×Nat)(hf:∀ z,Nf.ok z→Nf.ok (f z))(hm:∀ z:Nf×Nat,z.1.le (f z).1)(z:Nf×Nat)(h:Nf.ok z):Nf.ok (rH p f z):=by
 unfold rH
 dsimp only
 have h0:((z.1.state 0).link z.2 z.1.states).wf:=(h.1.state (by omega)).link (by simp only[Nf.state];have:=h.2;omega) (by simp only[Nf.state];omega)
 have h1:=hf ((z.1.state 0).link z.2 z.1.states,z.1.states) ⟨h0,by simp only[Nf.state,Nf.link];omega⟩
 have h2:=h0.yj h1.1 (hm ((z.1.state 0).link z.2 z.1.states,z.1.states))
 generalize f ((z.1.state 0).link z.2 z.1.states,z.1.states)=A at *
 simp only[Nf.state,Nf.link] at h2
 refine⟨h1.1.link h1.2 (by omega),?_⟩
 show(if p=true then A.2 else z.1.states)<A.1.states
 split
 ·exact h1.2
 ·omega
theorem acQ(l:List Nat)(b:Nat):∀ (N:Nf),N.wf→b<N.states→(∀ x∈l,x<N.states)→(l.foldl (fun z e=>z.link e b) N).wf∧(l.foldl (fun z e=>z.link e b) N).states=N.states:=by
 induction l with
 | nil=>intro N h _ _;exact⟨h,rfl⟩
 | cons e l ih =>
  intro N h hb hl
  rw[List.foldl_cons]
  exact ih (N.link e b) (h.link (hl e (by simp)) hb) hb fun x hx=>hl x (by simp[hx])
mutual
theorem GI:∀ (t:Tr) (z:Nf×Nat),Nf.ok z→Nf.ok (bH t z)
 | .mk k s kids lo hi,(y,f),h=>by
  rw[bH]
  split
  ·exact VP kids _ h
  split
  ·obtain⟨h1,h2⟩:=VQ kids y f [] h (by simp)
   dsimp only
   generalize gy kids y f []=A at *
   obtain⟨h3,h4⟩:=acQ A.2 A.1.states (A.1.state 0) (h1.state (by omega)) (by simp only[Nf.state];omega) (fun x hx=>by have:=h2 x hx;simp only[Nf.state];omega)
   exact⟨h3,by rw[h4];simp only[Nf.state];omega⟩
  split
  ·exact QS _ _ (fun z=>CP kids z) (fun z=>rJ kids z) _ h
  split
  ·have h1:=CP kids (y,f) h
   have h2:=h.1.yj h1.1 (rJ kids (y,f))
   dsimp only at h2 ⊢
   generalize nV kids (y,f)=A at *
   have hf:f<y.states:=h.2
   exact⟨(((h1.1.state (by omega)).link (by simp only[Nf.state];have:=h1.2;omega) (by simp only[Nf.state];omega))).link (by simp only[Nf.state,Nf.link];omega) (by simp only[Nf.state,Nf.link];omega),by simp only[Nf.state,Nf.link];omega⟩
  split
  ·split
   ·exact h
   ·dsimp only
    have h1:=Ot (nV kids) (fun z=>CP kids z) lo.toNat (y,f) h
    generalize bT (nV kids) lo.toNat (y,f)=Z at *
    split
    ·exact QS _ _ (fun z=>CP kids z) (fun z=>rJ kids z) _ h1
    ·split
     ·exact h1
     ·have h0:(Z.1.state 0).wf:=h1.1.state (by omega)
      have key:∀ (n:Nat) (z:Nf×Nat),Nf.ok z→Z.1.states<z.1.states→Nf.ok (bT (fun z=>nV kids (z.1.link z.2 Z.1.states,z.2)) n z)∧Z.1.states<(bT (fun z=>nV kids (z.1.link z.2 Z.1.states,z.2)) n z).1.states:=by
       intro n
       induction n with
       | zero=>intro z hz hs;rw[bT];exact⟨hz,hs⟩
       | succ n ih =>
        intro z hz hs
        rw[bT]
        have h2:=CP kids (z.1.link z.2 Z.1.states,z.2) ⟨hz.1.link hz.2 hs,hz.2⟩
        have h3:=(hz.1.link hz.2 hs).yj h2.1 (rJ kids (z.1.link z.2 Z.1.states,z.2))
        exact ih _ h2 (by simp only[Nf.link] at h3 ⊢;omega)
      obtain⟨h2,h3⟩:=key (hi - lo).toNat (Z.1.state 0,Z.2) ⟨h0,by have:=h1.2;simp only[Nf.state];omega⟩ (by simp only[Nf.state];omega)
      exact⟨h2.1.link h2.2 h3,h3⟩
  split
  ·exact h
  split
  ·have hf:f<y.states:=h.2
   exact⟨(h.1.state (by omega)).edge (by simp only[Nf.state];omega) (by simp only[Nf.state];omega),by simp only[Nf.state,Nf.edge];omega⟩
  ·exact⟨h.1.state (by omega),by simp only[Nf.state];omega⟩
theorem CP:∀ (l:List Tr) (z:Nf×Nat),Nf.ok z→Nf.ok (nV l z)
 | [],z,h=>by rw[nV];exact h
 | x::_,z,h=>by rw[nV];exact GI x z h
theorem VP:∀ (l:List Tr) (z:Nf×Nat),Nf.ok z→Nf.ok (kF l z)
 | [],z,h=>by rw[kF];exact h
 | x::l,z,h=>by rw[kF];exact VP l _ (GI x z h)
theorem VQ:∀ (l:List Tr) (y:Nf) (f:Nat) (ends:List Nat),Nf.ok (y,f)→(∀ x∈ends,x<y.states)→(gy l y f ends).1.wf∧∀ x∈(gy l y f ends).2,x<(gy l y f ends).1.states
 | [],y,_,ends,h,he=>by rw[gy];exact⟨h.1,he⟩
 | x::l,y,f,ends,h,he=>by
  rw[gy]
  have h1:=GI x (y,f) h
  have h2:=h.1.yj h1.1 (oC x (y,f))
  have hf:f<y.states:=h.2
  refine VQ l _ f _ ⟨h1.1,by show f<(bH x (y,f)).1.states;dsimp only at h2;omega⟩ fun e he'=>?_
  rcases List.mem_append.1 he' with he' | he'
  ·have:=he e he';dsimp only at h2;omega
  ·simp at he';subst he';exact h1.2
end
theorem agK(l:List Tr)(hl:l.length≤64):(qJ l).1.wf∧0<(qJ l).1.states:=by
 have:∀ (l:List Tr) (z:Nf×Nat),z.1.wf→0<z.1.states→z.2+l.length≤64→(l.foldl ou z).1.wf∧0<(l.foldl ou z).1.states:=by
  intro l
  induction l with
  | nil=>intro z h1 h2 _;exact⟨h1,h2⟩
  | cons x l ih =>
   intro z h1 h2 h3
   rw[List.length_cons] at h3
   rw[List.foldl_cons]
   have g1:=GI x (z.1,0) ⟨h1,h2⟩
   have g2:(ou z x).1.wf:=by
    unfold ou
    exact(g1.1.state (by omega)).link (by simp only[Nf.state];have:=g1.2;omega) (by simp only[Nf.state];omega)
   exact ih _ g2 (by have:=h1.yj g2 (QM z x);omega) (by unfold ou;dsimp only;omega)
 exact this l (zI,0) ⟨rfl,by simp[zI,Nf.state],by simp[zI,Nf.state],by simp[zI,Nf.state]⟩ (by simp[zI,Nf.state]) (by simpa using hl)
end
end Go.Proofs.YtengfapcaaacaaaGreatDoor
