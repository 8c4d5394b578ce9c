/- The texts of N4, in few letters (mini.py). -/
import Derived.Test.YtengfapcaaacaaaGreatDoorM3
import Derived.ShutString
import Derived.Deep.Slices
import Derived.Test.YtengfapcaaacaaaGreatDoorProg
set_option linter.unusedVariables false
set_option linter.unusedSimpArgs false
set_option maxHeartbeats 800000
namespace Go.Proofs.YtengfapcaaacaaaGreatDoor
section
open Go.RowKit
def gQ(n s:Nat):List Nat:=(List.range n).filter fun i=>s.testBit i
def jA(n:Nat)(st:Nat×List Nat)(s:Nat):Nat×List Nat:=if s<n∧st.1.testBit s=false then (st.1 ||| 1 <<< s,st.2++[s]) else st
def qO(n:Nat)(goes:Nat→List Nat):Nat→Nat×List Nat→Nat
 | 0,st=>st.1
 | f+1,st=>match st.2.getLast? with
  | none=>st.1
  | some s=>qO n goes f ((goes s).foldl (jA n) (st.1,st.2.dropLast))
def dU(S k:Nat):Nat:=S >>> (64*k) % 18446744073709551616
def je(m S:Nat):List Nat:=(List.range m).map (dU S)
theorem D5(S k:Nat):dU S k<18446744073709551616:=Nat.mod_lt _ (by decide)
theorem uI(S k j:Nat):(dU S k).testBit j=(decide (j<64)&&S.testBit (64*k+j)):=by
 unfold dU
 rw[show(18446744073709551616:Nat)=2 ^ 64 from rfl,Nat.testBit_mod_two_pow,Nat.testBit_shiftRight]
theorem WH(m S:Nat):(je m S).length=m:=by simp[je]
theorem Kw(m S k:Nat)(h:k<(je m S).length):(je m S)[k]=dU S k:=by simp[je]
theorem YI(S i k:Nat):dU (S ||| 1 <<< i) k=if k=i / 64 then dU S k ||| 1 <<< (i % 64) else dU S k:=by
 apply Nat.eq_of_testBit_eq
 intro j
 rw[uI,Nat.testBit_or,Nat.one_shiftLeft,Nat.testBit_two_pow]
 split
 ·rename_i h
  subst h
  rw[Nat.testBit_or,uI,Nat.one_shiftLeft,Nat.testBit_two_pow]
  by_cases hj:j<64
  ·have:(i=64*(i / 64)+j)↔(i % 64=j):=by omega
   simp[hj,this]
  ·have:¬ i % 64=j:=by omega
   simp[hj,this]
 ·rename_i h
  rw[uI]
  by_cases hj:j<64
  ·have:¬ i=64*k+j:=by omega
   simp[hj,this]
  ·simp[hj]
theorem WI(m S i:Nat):je m (S ||| 1 <<< i)=(je m S).set (i / 64) (dU S (i / 64) ||| 1 <<< (i % 64)):=by
 apply List.ext_getElem
 ·simp[je]
 ·intro k h1 h2
  rw[Kw,List.getElem_set,Kw,YI]
  by_cases h:k=i / 64
  ·rw[if_pos h,if_pos h.symm,h]
  ·rw[if_neg h,if_neg fun e=>h e.symm]
theorem YJ(n S i:Nat)(hi:i<n)(hS:S<2 ^ n):S ||| 1 <<< i<2 ^ n:=by
 apply Nat.or_lt_two_pow hS
 rw[Nat.one_shiftLeft]
 exact Nat.pow_lt_pow_right (by decide) hi
theorem WJ(n m S:Nat)(h:n≤m)(hS:S<2 ^ n):gQ m S=gQ n S:=by
 unfold gQ
 obtain⟨d,rfl⟩:∃ d,m=n+d:=⟨m - n,by omega⟩
 rw[List.range_add,List.filter_append]
 have:((List.range d).map (n+·)).filter (fun i=>S.testBit i)=[]:=List.filter_eq_nil_iff.2 fun x hx=>by
  obtain⟨y,_,rfl⟩:=List.mem_map.1 hx
  rw[Nat.testBit_lt_two_pow (Nat.lt_of_lt_of_le hS (Nat.pow_le_pow_right (by decide) (Nat.le_add_right _ _)))]
  simp
 rw[this,List.append_nil]
def xM(S:Nat):Nat→Nat→List Nat
 | _,0=>[]
 | i,f+1=>jU i (dU S i)++xM S (i+1) f
theorem WM(S i:Nat):((List.range 64).map (64*i+·)).filter (fun x=>S.testBit x)=jU i (dU S i):=by
 rw[List.filter_map]
 unfold jU jy
 congr 1
 refine List.filter_congr fun x hx=>?_
 rw[uI];simp[List.mem_range.1 hx]
theorem Iu(S:Nat):∀ (f i:Nat),xM S i f=((List.range (64*f)).map (64*i+·)).filter (fun x=>S.testBit x)
 | 0,i=>by simp[xM]
 | f+1,i=>by
  rw[xM,Iu S f,←WM,show 64*(f+1)=64+64*f by omega,List.range_add,List.map_append,List.filter_append]
  congr 2
  rw[List.map_map]
  refine List.map_congr_left fun x _=>?_
  show 64*(i+1)+x=64*i+(64+x)
  omega
theorem WO(n m S:Nat)(h:n≤64*m)(hS:S<2 ^ n):gQ n S=xM S 0 m:=by
 rw[←WJ n _ S h hS,Iu]
 simp[gQ]
theorem Fj{n S i:Nat}:i∈gQ n S↔i<n∧S.testBit i=true:=by
 unfold gQ;rw[List.mem_filter,List.mem_range]
theorem Om(n S:Nat):(gQ n S).length≤n:=by
 have:=List.length_filter_le (fun i=>S.testBit i) (List.range n)
 simpa [gQ] using this
theorem abJ(n S:Nat)(hS:S<2 ^ n):(gQ n S).foldl (fun T i=>T ||| 1 <<< i) 0=S:=by
 have key:∀ (l:List Nat) (T j:Nat),(l.foldl (fun T i=>T ||| 1 <<< i) T).testBit j=(T.testBit j||decide (j∈l)):=by
  intro l
  induction l with
  | nil=>intro T j;simp
  | cons a l ih =>
   intro T j
   rw[List.foldl_cons,ih,Nat.testBit_or,Nat.one_shiftLeft,Nat.testBit_two_pow]
   by_cases h:a=j
   ·subst h;simp
   ·have h':¬ j=a:=fun e=>h e.symm
    simp[h,h']
 apply Nat.eq_of_testBit_eq
 intro j
 rw[key,Nat.zero_testBit,Bool.false_or]
 by_cases hj:j<n
 ·rw[Bool.eq_iff_iff,decide_eq_true_eq,Fj];simp[hj]
 ·have hp:2 ^ n≤2 ^ j:=Nat.pow_le_pow_right (by decide) (by omega)
  rw[Nat.testBit_lt_two_pow (by omega),decide_eq_false]
  rw[Fj];omega
def zT:List UInt8→Nat
 | []=>0
 | b::l=>b.toNat+256*zT l
def nR(w i:Nat):UInt8:=UInt8.ofNat (w >>> (8*i))
def vk(w:Nat):List UInt8:=(List.range 8).map (nR w)
def sV:List Nat→Nat
 | []=>0
 | w::l=>w+18446744073709551616*sV l
def vw(S:Nat):Nat→Nat
 | 0=>0
 | n+1=>if dU S n=0 then vw S n else n+1
def Je(m S:Nat):List UInt8:=(je (vw S m) S).flatMap vk
theorem Iw:∀ (a b:List UInt8),zT (a++b)=zT a+256 ^ a.length*zT b
 | [],b=>by simp[zT]
 | x::a,b=>by
  rw[List.cons_append,zT,zT,Iw a b,List.length_cons,Nat.pow_succ,Nat.mul_add]
  rw[Nat.mul_comm (256 ^ a.length) 256,Nat.mul_assoc];omega
theorem WQ(w:Nat)(h:w<18446744073709551616):zT (vk w)=w:=by
 have e:vk w=[nR w 0,nR w 1,nR w 2,nR w 3,nR w 4,nR w 5,nR w 6,nR w 7]:=rfl
 have f:∀ i,(nR w i).toNat=w / 2 ^ (8*i) % 256:=fun i=>by
  unfold nR;rw[UInt8.toNat_ofNat',Nat.shiftRight_eq_div_pow]
 rw[e]
 simp only[zT,f]
 simp only[Nat.reduceMul,Nat.reducePow,Nat.pow_zero,Nat.div_one,Nat.mul_zero,Nat.add_zero]
 omega
theorem Ky:∀ (l:List Nat),(∀ x∈l,x<18446744073709551616)→zT (l.flatMap vk)=sV l
 | [],_=>rfl
 | w::l,h=>by
  rw[List.flatMap_cons,Iw,WQ w (h w (by simp)),sV,Ky l fun x hx=>h x (by simp[hx]),show(vk w).length=8 by simp[vk]]
theorem Cc:∀ (a b:List Nat),sV (a++b)=sV a+18446744073709551616 ^ a.length*sV b
 | [],b=>by simp[sV]
 | x::a,b=>by
  rw[List.cons_append,sV,sV,Cc a b,List.length_cons,Nat.pow_succ,Nat.mul_add]
  rw[Nat.mul_comm (18446744073709551616 ^ a.length) 18446744073709551616,Nat.mul_assoc];omega
theorem xO(n S:Nat):je (n+1) S=je n S++[dU S n]:=by unfold je;rw[List.range_succ,List.map_append];rfl
theorem Qu(S:Nat):∀ m,sV (je (vw S m) S)=sV (je m S)
 | 0=>rfl
 | n+1=>by
  rw[vw]
  split
  ·rename_i h
   rw[Qu S n,xO,Cc,h];simp[sV]
  ·rfl
theorem Kz(S:Nat):∀ m,sV (je m S)=S % 18446744073709551616 ^ m
 | 0=>by simp[je,sV,Nat.mod_one]
 | n+1=>by
  rw[xO,Cc,Kz S n,WH,sV,sV,Nat.mul_zero,Nat.add_zero,Nat.pow_succ,Nat.mod_mul]
  unfold dU
  rw[Nat.shiftRight_eq_div_pow,Nat.pow_mul]
theorem Qv(m S:Nat)(h:S<2 ^ (64*m)):zT (Je m S)=S:=by
 unfold Je
 rw[Ky _ (fun x hx=>by
  obtain⟨k,_,rfl⟩:=List.mem_map.1 hx
  exact D5 _ _),Qu,Kz,Nat.mod_eq_of_lt]
 rw[Nat.pow_mul] at h;exact h
theorem abK{m S T:Nat}(hS:S<2 ^ (64*m))(hT:T<2 ^ (64*m))(h:Je m S=Je m T):S=T:=by
 rw[←Qv m S hS,h,Qv m T hT]
def lacks(n S:Nat):Nat:=((List.range n).filter fun i=>!S.testBit i).length
theorem YK(n S i:Nat)(hi:i<n)(h:S.testBit i=false):lacks n (S ||| 1 <<< i)+1=lacks n S:=by
 have tb:∀ j,(S ||| 1 <<< i).testBit j=(S.testBit j||decide (i=j)):=fun j=>by rw[Nat.testBit_or,Nat.one_shiftLeft,Nat.testBit_two_pow]
 unfold lacks
 obtain⟨d,rfl⟩:∃ d,n=i+1+d:=⟨n - (i+1),by omega⟩
 rw[List.range_add,List.range_succ]
 simp only[List.filter_append,List.length_append]
 have e1:(List.range i).filter (fun j=>!(S ||| 1 <<< i).testBit j)=(List.range i).filter (fun j=>!S.testBit j):=List.filter_congr fun x hx=>by
  rw[tb,decide_eq_false (by have:=List.mem_range.1 hx;omega),Bool.or_false]
 have e2:((List.range d).map (i+1+·)).filter (fun j=>!(S ||| 1 <<< i).testBit j)=((List.range d).map (i+1+·)).filter (fun j=>!S.testBit j):=List.filter_congr fun x hx=>by
  obtain⟨y,_,rfl⟩:=List.mem_map.1 hx
  rw[tb,decide_eq_false (by omega),Bool.or_false]
 have e3:[i].filter (fun j=>!(S ||| 1 <<< i).testBit j)=[]:=by simp[tb]
 have e4:[i].filter (fun j=>!S.testBit j)=[i]:=by simp[h]
 rw[e1,e2,e3,e4]
 simp
 omega
theorem abL(n:Nat)(st:Nat×List Nat)(s:Nat):(jA n st s).2.length+lacks n (jA n st s).1=st.2.length+lacks n st.1:=by
 unfold jA
 split
 ·rename_i h
  have:=YK n st.1 s h.1 h.2
  simp;omega
 ·rfl
theorem AZ(n:Nat)(l:List Nat)(st:Nat×List Nat):(l.foldl (jA n) st).2.length+lacks n (l.foldl (jA n) st).1=st.2.length+lacks n st.1:=by
 induction l generalizing st with
 | nil=>rfl
 | cons a l ih=>rw[List.foldl_cons,ih,abL]
theorem afx(n:Nat)(st:Nat×List Nat)(s:Nat)(h:st.1<2 ^ n):(jA n st s).1<2 ^ n:=by
 unfold jA
 split
 ·rename_i h1;exact YJ n _ _ h1.1 h
 ·exact h
theorem Qw(n S:Nat):lacks n S≤n:=by
 have:=List.length_filter_le (fun i=>!S.testBit i) (List.range n)
 simpa [lacks] using this
theorem Ur(n:Nat)(goes:Nat→List Nat)(f:Nat)(st:Nat×List Nat)(s:Nat)(ws:List Nat)(h:st.2=ws++[s]):qO n goes (f+1) st=qO n goes f ((goes s).foldl (jA n) (st.1,ws)):=by
 rw[qO,h,List.getLast?_concat,List.dropLast_concat]
theorem Us(n:Nat)(goes:Nat→List Nat)(f:Nat)(st:Nat×List Nat)(h:st.2=[]):qO n goes f st=st.1:=by
 cases f with
 | zero=>rfl
 | succ f=>rw[qO,h];rfl
end
section
open Go.ChangeShapes Go.WideShapes Go.ChangeAt Go.RowKit Go.Deep
section
variable {H:Type} {enc:TypeId×Value→H} {P:Program} {w:World} {qB:Nat} {spare:Nat→Bool} {held:Bool} {fuel:Nat} {t e:TypeId} {cs:List Value} {x:DataW H×List MemPlace}
theorem Ut{n:Nat}{k:IntKind}(ht:P.underlying t=some (.array n e))(he:P.underlying e=some (.int k))(hc:P.cellsOf e=1)(hct:P.cellsOf t=n)(h:DataW.trod enc P w qB spare held fuel t cs=some x) :
  ∃ zs:List Int,zs.length=n∧cs=zs.map (Value.int k)∧∀ z∈zs,(Lit.int k z).wf=true:=by
 obtain⟨xs,m,_,_,hl,hxl,hx⟩:=DataW.trod_array ht h
 rw[hct] at hl
 have key:∀ i,i<n→∃ z:Int,cs[i]?=some (.int k z)∧(Lit.int k z).wf=true:=fun i hi=>by
  have h1:=hx i hi
  rw[hc,Nat.mul_one,List.getElem?_eq_getElem (show i<xs.length by omega)] at h1
  obtain⟨z,h2,_,h3⟩:=DataW.trod_int he h1
  refine⟨z,?_,h3⟩
  have:=congrArg (fun l:List Value=>l[0]?) h2
  simpa using this
 obtain⟨f,hf⟩:=choose_lt key
 refine⟨(List.range n).map f,by simp,?_,fun z hz=>?_⟩
 ·apply List.ext_getElem?
  intro i
  by_cases hi:i<n
  ·rw[(hf i hi).1];simp[hi]
  ·rw[List.getElem?_eq_none (by omega),List.getElem?_eq_none (by simp;omega)]
 ·obtain⟨i,hi,rfl⟩:=List.mem_map.1 hz
  exact(hf i (by simpa using hi)).2
theorem wf_u8{z:Int}(h:(Lit.int .u8 z).wf=true):∃ n:Nat,z=(n:Int)∧n<256:=by
 have:0≤z∧z≤255:=by simpa [Lit.wf,IntKind.min,IntKind.max,IntKind.bits,IntKind.signed] using h
 exact⟨z.toNat,by omega,by omega⟩
theorem YL(ht:P.underlying t=some (.array 256 e))(he:P.underlying e=some (.int .u8))(hc:P.cellsOf e=1)(hct:P.cellsOf t=256)(h:DataW.trod enc P w qB spare held fuel t cs=some x) :
  ∃ f:Nat→Nat,cs=(aS f).toList∧∀ b,f b<256:=by
 obtain⟨zs,hl,rfl,hw⟩:=Ut ht he hc hct h
 have hb:∀ i,0≤zs.getD i 0∧zs.getD i 0<256:=fun i=>by
  by_cases hi:i<zs.length
  ·obtain⟨n,hn,hlt⟩:=wf_u8 (hw zs[i] (List.getElem_mem hi))
   simp only[List.getD,List.getElem?_eq_getElem hi,Option.getD_some,hn];omega
  ·simp[List.getD,List.getElem?_eq_none (show zs.length≤i by omega)]
 refine⟨fun i=>(zs.getD i 0).toNat,?_,fun b=>by have:=hb b;show(zs.getD b 0).toNat<256;omega⟩
 apply List.ext_getElem?
 intro i
 by_cases hi:i<256
 ·have:=dS (fun i=>(zs.getD i 0).toNat) i hi
  rw[←Array.getElem?_toList] at this
  rw[this]
  have h1:=hb i
  rw[List.getElem?_map]
  simp only[List.getD] at h1 ⊢
  rw[List.getElem?_eq_getElem (show i<zs.length by omega)] at h1 ⊢
  simp at h1 ⊢
  omega
 ·have h1:(aS fun i=>(zs.getD i 0).toNat).toList[i]?=none:=List.getElem?_eq_none (by rw[Array.length_toList,aV];omega)
  rw[h1,List.getElem?_eq_none (by simp;omega)]
theorem WR{ts:TypeId}(hs:P.underlying ts=some (.slice e))(he:P.underlying e=some (.int .u8))(hc:P.cellsOf e=1)
  {a:Option Addr} {len cap:Nat} (h:DataW.trod enc P w qB spare held fuel ts [.slice a len cap]=some x):∃ l:List Nat,len=l.length∧ak w (.slice a l.length cap) 1 gY l∧∀ x∈l,x<256:=by
 rcases open_slice1 hs hc h with⟨h0,_⟩ | ⟨a',len',cap',m,n,V,D,Pl,h0,_,hle,hm,hmm,_,hx⟩
 ·simp at h0
  obtain⟨rfl,rfl,rfl⟩:=h0
  exact⟨[],rfl,⟨none,0,0,0,rfl,Nat.le_refl _,by simp[maxLen],.inr ⟨rfl,fun _=>rfl⟩,fun i hi=>by simp at hi⟩,by simp⟩
 ·simp at h0
  obtain⟨rfl,rfl,rfl⟩:=h0
  have hlm:len≤m:=by rw[hmm];split <;> omega
  have key:∀ i,i<len→∃ y:Nat,w.cell? (a'.add i)=some (.int .u8 y)∧y<256:=fun i hi=>by
   obtain⟨h1,h2⟩:=hx i (by omega)
   obtain⟨z,h3,_,h4⟩:=DataW.trod_int he h2
   obtain⟨y,rfl,hy⟩:=wf_u8 h4
   exact⟨y,by rw[h1];simpa using h3,hy⟩
  obtain⟨f,hf⟩:=choose_lt key
  have hspot:0<len→a'.spot=none:=fun h0=>by
   have:=World.cell?_spot (hf 0 h0).1
   simpa [Addr.add] using this
  obtain⟨b,o,spot⟩:=a'
  refine⟨(List.range len).map f,by simp,⟨some ⟨b,o,spot⟩,b,o,cap,by simp,by simpa using hle,hm,?_,fun i hi j u hu=>?_⟩,fun y hy=>?_⟩
  ·by_cases h0:len=0
   ·exact .inr ⟨by simp[h0],fun h=>by cases h⟩
   ·have h1:=hspot (by omega)
    simp only at h1
    exact .inl (by rw[h1])
  ·have hi':i<len:=by simpa using hi
   have:=(hf i hi').1
   have hs2:spot=none:=hspot (by omega)
   subst hs2
   rw[Addr.add_mid] at this
   have hj:j=0:=by have:=(List.getElem?_eq_some_iff.1 hu).1;simpa using this
   subst hj
   have e:gY ((List.range len).map f)[i]=gY (f i):=by simp
   rw[e] at hu
   simp at hu
   rw[←hu,Nat.mul_one,Nat.add_zero];exact this
  ·obtain⟨i,hi,rfl⟩:=List.mem_map.1 hy
   exact(hf i (by simpa using hi)).2
end
end
section
open Go.ChangeShapes Go.WideShapes Go.ChangeAt Go.RowKit Go.Deep
inductive Tr where
 | mk (k:Int) (s:au) (kids:List Tr) (lo hi:Int)
inductive Vt where
 | mk (k:Int) (s:au) (a:Option Addr) (cap:Nat) (kids:List Vt) (lo hi:Int)
def Vt.tr:Vt→Tr
 | .mk k s _ _ kids lo hi=>.mk k s (kids.map Vt.tr) lo hi
abbrev aC(k:Int)(s:au)(a:Option Addr)(n cap:Nat)(lo hi:Int):List Value :=
 [.int .i64 k,.int .u64 (word s 0:Nat),.int .u64 (word s 1:Nat),.int .u64 (word s 2:Nat),.int .u64 (word s 3:Nat),.slice a n cap,.int .i64 lo,.int .i64 hi]
def Vt.cells:Vt→List Value
 | .mk k s a cap kids lo hi=>aC k s a kids.length cap lo hi
def Tr.kids:Tr→List Tr
 | .mk _ _ kids _ _=>kids
theorem Vt.bI(V:Vt):V.cells.length=8:=by cases V;rfl
theorem Vt.cells_one(V:Vt):∀ u∈V.cells,u.oneCell'=true:=by
 obtain⟨k,s,a,cap,kids,lo,hi⟩:=V
 intro u hu
 simp[Vt.cells] at hu
 rcases hu with rfl | rfl | rfl | rfl | rfl | rfl | rfl | rfl <;> rfl
abbrev I64(z:Int):Prop:=-9223372036854775808≤z∧z≤9223372036854775807
inductive Lies (w:World):Vt→Prop
 | mk (k:Int) (s:au) (a:Option Addr) (cap:Nat) (kids:List Vt) (lo hi:Int) (hk:I64 k) (hlo:I64 lo) (hhi:I64 hi)
   (hs:ak w (.slice a kids.length cap) 8 Vt.cells kids) (hkids:∀ i (h:i<kids.length),Lies w kids[i]):Lies w (.mk k s a cap kids lo hi)
theorem Lies.kept{w w':World}{V:Vt}(h:Lies w V)(hb:Below w.heap.size w w'):Lies w' V:=by
 induction h with
 | mk k s a cap kids lo hi hk hlo hhi hs _ ih=>exact .mk k s a cap kids lo hi hk hlo hhi (hs.kept hb) ih
theorem Lies.open{w:World}{k:Int}{s:au}{a:Option Addr}{cap:Nat}{kids:List Vt}{lo hi:Int}(h:Lies w (.mk k s a cap kids lo hi)) :
  I64 k∧I64 lo∧I64 hi∧ak w (.slice a kids.length cap) 8 Vt.cells kids∧∀ i (h:i<kids.length),Lies w kids[i]:=by
 cases h with
 | mk _ _ _ _ _ _ _ hk hlo hhi hs hkids=>exact⟨hk,hlo,hhi,hs,hkids⟩
theorem Lies.drew{w:World}{V:Vt}(h:Lies w V):Lies w.drew V:=by
 induction h with
 | mk k s a cap kids lo hi hk hlo hhi hs _ ih=>exact .mk k s a cap kids lo hi hk hlo hhi hs ih
theorem Vt.ind{M:Vt→Prop}(h:∀ k s a cap kids lo hi,(∀ i (h:i<kids.length),M kids[i])→M (.mk k s a cap kids lo hi)):∀ V,M V
 | .mk k s a cap kids lo hi=>h k s a cap kids lo hi (fun i hi=>Vt.ind h kids[i])
termination_by V=>SizeOf.sizeOf V
decreasing_by
 have:=List.sizeOf_lt_of_mem (List.getElem_mem hi)
 simp only[Vt.mk.sizeOf_spec]
 omega
theorem Tr.ind{M:Tr→Prop}(h:∀ k s kids lo hi,(∀ i (h:i<kids.length),M kids[i])→M (.mk k s kids lo hi)):∀ V,M V
 | .mk k s kids lo hi=>h k s kids lo hi (fun i hi=>Tr.ind h kids[i])
termination_by V=>SizeOf.sizeOf V
decreasing_by
 have:=List.sizeOf_lt_of_mem (List.getElem_mem hi)
 simp only[Tr.mk.sizeOf_spec]
 omega
theorem Vt.jJ(k:Int)(s:au)(a:Option Addr)(cap:Nat)(kids:List Vt)(lo hi:Int):(Vt.mk k s a cap kids lo hi).tr=.mk k s (kids.map Vt.tr) lo hi:=by rw[Vt.tr]
mutual
def eqT:Tr→Tr→Bool
 | .mk k s l lo hi,.mk k' s' l' lo' hi'=>decide (k=k')&&decide (s=s')&&decide (lo=lo')&&decide (hi=hi')&&agt l l'
def agt:List Tr→List Tr→Bool
 | [],[]=>true
 | a::l,b::m=>eqT a b&&agt l m
 | [],_::_=>false
 | _::_,[]=>false
end
theorem qP{w:World}{b o:Nat}{k:Int}{s:au}{a:Option Addr}{n cap:Nat}{lo hi:Int}(h:∀ j u,(aC k s a n cap lo hi)[j]?=some u→w.cell? ⟨b,o+j,none⟩=some u) :
  w.cell? ⟨b,o,none⟩=some (.int .i64 k)∧w.cell? ⟨b,o+1,none⟩=some (.int .u64 (word s 0:Nat))∧w.cell? ⟨b,o+2,none⟩=some (.int .u64 (word s 1:Nat)) ∧
  w.cell? ⟨b,o+3,none⟩=some (.int .u64 (word s 2:Nat))∧w.cell? ⟨b,o+4,none⟩=some (.int .u64 (word s 3:Nat))∧w.cell? ⟨b,o+5,none⟩=some (.slice a n cap) ∧
  w.cell? ⟨b,o+6,none⟩=some (.int .i64 lo)∧w.cell? ⟨b,o+7,none⟩=some (.int .i64 hi) :=
 ⟨h 0 _ rfl,h 1 _ rfl,h 2 _ rfl,h 3 _ rfl,h 4 _ rfl,h 5 _ rfl,h 6 _ rfl,h 7 _ rfl⟩
theorem Box.node{w:World}{b E:Nat}{k:Int}{s:au}{a:Option Addr}{n cap:Nat}{lo hi:Int}(h:Box w b (aC k s a n cap lo hi).toArray E) :
  w.cell? ⟨b,0,none⟩=some (.int .i64 k)∧w.cell? ⟨b,1,none⟩=some (.int .u64 (word s 0:Nat))∧w.cell? ⟨b,2,none⟩=some (.int .u64 (word s 1:Nat)) ∧
  w.cell? ⟨b,3,none⟩=some (.int .u64 (word s 2:Nat))∧w.cell? ⟨b,4,none⟩=some (.int .u64 (word s 3:Nat))∧w.cell? ⟨b,5,none⟩=some (.slice a n cap) ∧
  w.cell? ⟨b,6,none⟩=some (.int .i64 lo)∧w.cell? ⟨b,7,none⟩=some (.int .i64 hi) :=
 ⟨h.cell 0,h.cell 1,h.cell 2,h.cell 3,h.cell 4,h.cell 5,h.cell 6,h.cell 7⟩
theorem ak.kids{w:World}{a:Option Addr}{cap:Nat}{kids:List Vt}(h:ak w (.slice a kids.length cap) 8 Vt.cells kids) :
  ∃ b o,kids.length≤cap∧cap≤9223372036854775807∧(∀ i,i<kids.length→a=some ⟨b,o,none⟩)∧(0<kids.length→b<w.heap.size) ∧
   ∀ i (h:i<kids.length) (w':World),Below w.heap.size w w'→∀ j u,(kids[i].cells)[j]?=some u→w'.cell? ⟨b,o+i*8+j,none⟩=some u:=by
 obtain⟨b,o,_,h2,h3,h4,h5⟩:=h.open
 refine⟨b,o,h2,h3,h4,fun h0=>?_,fun i hi w' hB j u hu=>?_⟩
 ·have:0<(kids[0].cells).length:=by rw[Vt.bI];omega
  exact World.block_lt_of_cell? w _ (h5 0 h0 0 _ (List.getElem?_eq_getElem this))
 ·have:=h5 i hi j u hu
  rw[hB.cell (World.block_lt_of_cell? w _ this)];exact this
structure ank(P:Program)(tN tK tS tU tL tI:TypeId)(fs:Array Field):Prop where
 node:P.underlying tN=some (.struct fs)
 Qx:fs.map (fun f=>(f.type,f.offset))=#[(tK,0),(tS,1),(tL,5),(tI,6),(tI,7)]
 kind:P.underlying tK=some (.int .i64)
 set:P.underlying tS=some (.array 4 tU)
 word:P.underlying tU=some (.int .u64)
 list:P.underlying tL=some (.slice tN)
 int:P.underlying tI=some (.int .i64)
 cN:P.cellsOf tN=8
 cK:P.cellsOf tK=1
 cS:P.cellsOf tS=4
 cU:P.cellsOf tU=1
 cL:P.cellsOf tL=1
 cI:P.cellsOf tI=1
section
variable {H:Type} {enc:TypeId×Value→H} {P:Program} {w:World} {qB:Nat} {spare:Nat→Bool} {held:Bool} {tN tK tS tU tL tI:TypeId} {fs:Array Field}
end
end
section
open Go.RowKit
inductive On (S:Nat→Prop):Vt→Prop
 | mk (k:Int) (s:au) (a:Option Addr) (cap:Nat) (kids:List Vt) (lo hi:Int) (h:0<kids.length→∀ ad,a=some ad→S ad.block) (hk:∀ i (h:i<kids.length),On S kids[i]):On S (.mk k s a cap kids lo hi)
theorem On.mono{S S':Nat→Prop}{V:Vt}(h:On S V)(hs:∀ b,S b→S' b):On S' V:=by
 induction h with
 | mk k s a cap kids lo hi h _ ih=>exact .mk k s a cap kids lo hi (fun h0 ad ha=>hs _ (h h0 ad ha)) ih
theorem On.and{S S':Nat→Prop}{V:Vt}(h:On S V)(h':On S' V):On (fun b=>S b∧S' b) V:=by
 induction h with
 | mk k s a cap kids lo hi h _ ih =>
  cases h' with
  | mk _ _ _ _ _ _ _ h2 k2=>exact .mk k s a cap kids lo hi (fun h0 ad ha=>⟨h h0 ad ha,h2 h0 ad ha⟩) fun i hi=>ih i hi (k2 i hi)
theorem ak.blk{α:Type}{w:World}{ad:Addr}{n cap size:Nat}{enc:α→List Value}{xs:List α}(h:ak w (.slice (some ad) n cap) size enc xs)(h0:0<xs.length)(he:0<(enc xs[0]).length):ad.block<w.heap.size:=by
 obtain⟨b,o,_,_,_,ha,hx⟩:=h.open
 obtain rfl:=Option.some.inj (ha 0 h0)
 have:=World.block_lt_of_cell? w _ (hx 0 h0 0 _ (List.getElem?_eq_getElem he))
 exact this
theorem Lies.on{w:World}{V:Vt}(h:Lies w V):On (fun b=>b<w.heap.size) V:=by
 induction h with
 | mk k s a cap kids lo hi _ _ _ hs _ ih=>exact .mk k s a cap kids lo hi (fun h0 ad ha=>by subst ha;exact hs.blk h0 (by rw[Vt.bI];decide)) ih
theorem ak.eH{α:Type}{w w':World}{a:Option Addr}{n cap size:Nat}{enc:α→List Value}{xs:List α}(h:ak w (.slice a n cap) size enc xs)(hb:0<xs.length→∀ ad,a=some ad→w'.heap[ad.block]?=w.heap[ad.block]?):ak w' (.slice a n cap) size enc xs:=by
 obtain⟨a',b,o,cap',hv,hl,hc,ha,hx⟩:=h
 obtain⟨rfl,rfl,rfl⟩:=Value.slice.inj hv
 refine⟨a,b,o,cap,rfl,hl,hc,ha,fun i hi j u hu=>?_⟩
 rcases ha with rfl | ⟨rfl,_⟩
 ·rw[←hx i hi j u hu]
  exact World.cell?_of_block (a:=⟨b,o+i*size+j,none⟩) (hb (by omega) ⟨b,o,none⟩ rfl)
 ·simp at hi
theorem Lies.eH{w w':World}{S:Nat→Prop}{V:Vt}(h:Lies w V)(ho:On S V)(hb:∀ b,S b→w'.heap[b]?=w.heap[b]?):Lies w' V:=by
 induction h with
 | mk k s a cap kids lo hi h1 h2 h3 hs _ ih =>
  cases ho with
  | mk _ _ _ _ _ _ _ g1 g2=>exact .mk k s a cap kids lo hi h1 h2 h3 (hs.eH fun h0 ad ha=>hb _ (g1 h0 ad ha)) fun i hi=>ih i hi (g2 i hi)
theorem D6:fB Vt.cells 8:=⟨Vt.bI,Vt.cells_one⟩
def vC(w:World)(qB E:Nat)(v:Value)(vs:List Vt):Prop :=
 Own w qB E 8 Vt.cells v vs∧(∀ i (h:i<vs.length),Lies w vs[i])∧∀ i (h:i<vs.length),On (fun b=>v.ownBlock≠some b) vs[i]
theorem vC.kept{w w':World}{qB E:Nat}{v:Value}{vs:List Vt}(h:vC w qB E v vs)(hb:Below w.heap.size w w'):vC w' qB E v vs :=
 ⟨h.1.kept hb,fun i hi=>(h.2.1 i hi).kept hb,h.2.2⟩
theorem vC.nil(w:World)(qB E:Nat):vC w qB E (.slice none 0 0) []:=⟨Own.nil _ _ _ _ _,fun i h=>by simp at h,fun i h=>by simp at h⟩
theorem vC.appended{w w':World}{qB E:Nat}{v v':Value}{vs:List Vt}{y:Vt}(h:vC w qB E v vs)(hy:Lies w y)(hoy:On (fun b=>v.ownBlock≠some b) y)
  (ho:Own w' qB E 8 Vt.cells v' (vs++[y])) (hg:w.grownBy w' v.ownBlock) (hb:v'.ownBlock=v.ownBlock∨v'.ownBlock=some w.heap.size):vC w' qB E v' (vs++[y]):=by
 have key:∀ V:Vt,Lies w V→On (fun b=>v.ownBlock≠some b) V→Lies w' V∧On (fun b=>v'.ownBlock≠some b) V:=fun V h1 h2=>by
  have h3:=h2.and h1.on
  refine⟨h1.eH h3 fun b ⟨hb1,hb2⟩=>hg.block b hb2 (fun e=>hb1 e.symm),h3.mono fun b ⟨hb1,hb2⟩=>?_⟩
  rcases hb with hb | hb
  ·rw[hb];exact hb1
  ·rw[hb];intro e;have:=Option.some.inj e;omega
 refine⟨ho,fun i hi=>?_,fun i hi=>?_⟩
 ·by_cases hlt:i<vs.length
  ·rw[List.getElem_append_left hlt];exact(key _ (h.2.1 i hlt) (h.2.2 i hlt)).1
  ·have:i=vs.length:=by simp at hi;omega
   subst this;simpa using (key y hy hoy).1
 ·by_cases hlt:i<vs.length
  ·rw[List.getElem_append_left hlt];exact(key _ (h.2.1 i hlt) (h.2.2 i hlt)).2
  ·have:i=vs.length:=by simp at hi;omega
   subst this;simpa using (key y hy hoy).2
theorem vC.slice{w:World}{qB E:Nat}{a:Option Addr}{n cap:Nat}{vs:List Vt}(h:vC w qB E (.slice a n cap) vs):ak w (.slice a n cap) 8 Vt.cells vs:=h.1.slice D6
def Qy(w:World)(A:Tr)(e:Ending)(w':World):Prop :=
 ∃ V:Vt,e=.returned (.agg V.cells.toArray)∧V.tr=A∧Lies w' V∧On (fun b=>w.heap.size≤b) V∧Below w.heap.size w w'
def agu(w:World)(A:Tr)(e:Ending)(w':World):Prop :=
 ∃ V:Vt,e=.returned (.agg V.cells.toArray)∧V.tr=A∧Lies w' V∧Below w.heap.size w w'
theorem Qy.open{w w':World}{A:Tr}{e:Ending}(h:Qy w A e w'):∃ (k:Int) (s:au) (a:Option Addr) (cap:Nat) (kids:List Vt) (lo hi:Int),e=.returned (.agg (aC k s a kids.length cap lo hi).toArray) ∧
  (Vt.mk k s a cap kids lo hi).tr=A∧Lies w' (.mk k s a cap kids lo hi)∧On (fun b=>w.heap.size≤b) (.mk k s a cap kids lo hi)∧Below w.heap.size w w':=by
 obtain⟨⟨k,s,a,cap,kids,lo,hi⟩,h1,h2,h3,h4,h5⟩:=h
 exact⟨k,s,a,cap,kids,lo,hi,h1,h2,h3,h4,h5⟩
theorem agu.open{w w':World}{A:Tr}{e:Ending}(h:agu w A e w'):∃ (k:Int) (s:au) (a:Option Addr) (cap:Nat) (kids:List Vt) (lo hi:Int),e=.returned (.agg (aC k s a kids.length cap lo hi).toArray) ∧
  (Vt.mk k s a cap kids lo hi).tr=A∧Lies w' (.mk k s a cap kids lo hi)∧Below w.heap.size w w':=by
 obtain⟨⟨k,s,a,cap,kids,lo,hi⟩,h1,h2,h3,h5⟩:=h
 exact⟨k,s,a,cap,kids,lo,hi,h1,h2,h3,h5⟩
def A8(B:Nat)(w w':World):Prop:=∀ b,B≤b→w'.heap[b]?=w.heap[b]?
theorem A8.refl(B:Nat)(w:World):A8 B w w:=fun _ _=>rfl
theorem A8.set{B:Nat}{w w':World}(h:A8 B w w'){a:Addr}(ha:a.block<B)(v:Value):A8 B w (w'.setCell a v):=fun b hb=>(heap_setCell_other w' a b v (by omega)).trans (h b hb)
theorem Lies.above{w w':World}{B:Nat}{V:Vt}(h:Lies w V)(ho:On (fun b=>B≤b) V)(hb:A8 B w w'):Lies w' V:=h.eH ho hb
theorem Own.above{α:Type}{w w':World}{qB B E size:Nat}{enc:α→List Value}{v:Value}{xs:List α}(h:Own w qB E size enc v xs)(hB:B≤qB)(hb:A8 B w w'):Own w' qB E size enc v xs:=by
 obtain⟨a,cap,hv,hle,hm,hh⟩:=h
 refine⟨a,cap,hv,hle,hm,?_⟩
 rcases hh with hh | ⟨g,cur,ha,hbg,hg,hr⟩
 ·exact .inl hh
 ·exact .inr ⟨g,cur,ha,hbg,(hb g (by omega)).trans hg,hr⟩
theorem vC.node{w w':World}{qB B E:Nat}{a:Option Addr}{cap:Nat}{vs:List Vt}(h:vC w qB E (.slice a vs.length cap) vs)(hon:∀ i (h:i<vs.length),On (fun b=>B≤b) vs[i])(hB:B≤qB)(hb:A8 B w w')
  (k:Int) (s:au) (lo hi:Int) (hk:I64 k) (hlo:I64 lo) (hhi:I64 hi):Lies w' (.mk k s a cap vs lo hi)∧On (fun b=>B≤b) (.mk k s a cap vs lo hi):=by
 refine⟨.mk k s a cap vs lo hi hk hlo hhi ((h.1.above hB hb).slice D6) fun i hi=>(h.2.1 i hi).above (hon i hi) hb,.mk k s a cap vs lo hi (fun h0 ad ha=>?_) hon⟩
 obtain⟨g,hg,hbg,_⟩:=h.1.addr h0
 rw[hg] at ha
 obtain rfl:=Option.some.inj ha
 exact Nat.le_trans hB hbg
theorem Box.vF{w:World}{b E:Nat}{c:Array Value}(h:Box w b c E):w.frozen? ⟨b,0,none⟩=false∧w.frozen? ⟨b,1,none⟩=false∧w.frozen? ⟨b,2,none⟩=false∧w.frozen? ⟨b,3,none⟩=false∧w.frozen? ⟨b,4,none⟩=false∧w.frozen? ⟨b,5,none⟩=false∧w.frozen? ⟨b,6,none⟩=false∧w.frozen? ⟨b,7,none⟩=false :=
 ⟨h.free 0,h.free 1,h.free 2,h.free 3,h.free 4,h.free 5,h.free 6,h.free 7⟩
mutual
def sizeT:Tr→Nat
 | .mk _ _ l _ _=>1+pF l
def pF:List Tr→Nat
 | []=>0
 | a::l=>sizeT a+pF l
end
theorem YM(A:Tr):1≤sizeT A:=by cases A;simp[sizeT]
theorem KA(l:List Tr):l.length≤pF l:=by
 induction l with
 | nil=>simp[pF]
 | cons a l ih=>have:=YM a;simp[pF];omega
theorem WS(l:List Tr)(i:Nat)(h:i<l.length):sizeT l[i]≤pF l:=by
 induction l generalizing i with
 | nil=>simp at h
 | cons a l ih =>
  cases i with
  | zero=>simp[pF]
  | succ i=>have:=ih i (by simpa using h);simp[pF];omega
end
section
open Go.RowKit
structure Nf where
 states:Nat
 links:List (Nat×Nat)
 edges:List (Nat×au×Nat)
 accept:List Nat
def Nf.state(y:Nf)(k:Nat):Nf:={ y with states:=y.states+1,accept:=y.accept++[k] }
def Nf.link(y:Nf)(a b:Nat):Nf:={ y with links:=y.links++[(a,b)] }
def Nf.edge(y:Nf)(a:Nat)(s:au)(b:Nat):Nf:={ y with edges:=y.edges++[(a,s,b)] }
def aF:Nat:=1099511627776
def addN(a b:Nat):Nat:=if aF - a<b then aF else a+b
def mulN(a b:Nat):Nat:=if a=0∨b=0 then 0 else if aF / b<a then aF else a*b
mutual
def bg:Tr→Nat
 | .mk k _ kids lo hi =>
  if k=2∨k=4 then bV 0 kids
  else if k=9 then
   (let n:=bV 0 kids
    if n=0 then 0 else if hi<0 then addN (addN (mulN lo.toNat n) n) 1 else if lo<hi then addN (addN (mulN lo.toNat n) (mulN (hi - lo).toNat n)) 1 else mulN lo.toNat n)
  else addN (bV 0 kids) 1
def bV:Nat→List Tr→Nat
 | acc,[]=>acc
 | acc,x::l=>bV (addN acc (bg x)) l
end
def bW(f:Nf×Nat→Nf×Nat):Nat→Nf×Nat→Nf×Nat
 | 0,x=>x
 | n+1,x=>bW f n (f x)
def su(plus:Bool)(f:Nf×Nat→Nf×Nat)(z:Nf×Nat):Nf×Nat :=
 let r:=f ((z.1.state 0).link z.2 z.1.states,z.1.states)
 (r.1.link r.2 z.1.states,if plus then r.2 else z.1.states)
mutual
def bD:Tr→Nf×Nat→Nf×Nat
 | .mk k s kids lo hi,(y,at') =>
  if k=4 then jR kids (y,at')
  else if k=5 then
   (let r:=fK kids y at' []
    (r.2.foldl (fun z e=>z.link e r.1.states) (r.1.state 0),r.1.states))
  else if k=6∨k=7 then su (k=7) (nJ kids) (y,at')
  else if k=8 then
   (let r:=nJ kids (y,at')
    (((r.1.state 0).link r.2 r.1.states).link at' r.1.states,r.1.states))
  else if k=9 then
   (if bV 0 kids=0 then (y,at') else
    let r:=bW (nJ kids) lo.toNat (y,at')
    if hi<0 then su false (nJ kids) r
    else if hi=lo then r
    else
     let e:=bW (fun z=>nJ kids (z.1.link z.2 r.1.states,z.2)) (hi - lo).toNat (r.1.state 0,r.2)
     (e.1.link e.2 r.1.states,r.1.states))
  else if k=2 then (y,at')
  else if k=3 then ((y.state 0).edge at' s y.states,y.states)
  else (y.state 0,y.states)
termination_by structural x=>x
def nJ:List Tr→Nf×Nat→Nf×Nat
 | [],z=>z
 | x::_,z=>bD x z
termination_by structural x=>x
def jR:List Tr→Nf×Nat→Nf×Nat
 | [],z=>z
 | x::l,z=>jR l (bD x z)
termination_by structural x=>x
def fK:List Tr→Nf→Nat→List Nat→Nf×List Nat
 | [],y,_,ends=>(y,ends)
 | x::l,y,at',ends=>fK l (bD x (y,at')).1 at' (ends++[(bD x (y,at')).2])
termination_by structural x=>x
end
end
section
open Go.RowKit
def Nf.small(N:Nf):Prop:=N.links.length≤1099511627776∧N.edges.length≤1099511627776∧N.accept.length≤1099511627776
def Nf.le(A B:Nf):Prop:=A.links.length≤B.links.length∧A.edges.length≤B.edges.length∧A.accept.length≤B.accept.length
theorem Nf.le.refl(A:Nf):A.le A:=⟨Nat.le_refl _,Nat.le_refl _,Nat.le_refl _⟩
theorem Nf.le.trans{A B C:Nf}(h:A.le B)(k:B.le C):A.le C:=⟨Nat.le_trans h.1 k.1,Nat.le_trans h.2.1 k.2.1,Nat.le_trans h.2.2 k.2.2⟩
theorem Nf.le.small{A B:Nf}(h:A.le B)(k:B.small):A.small:=⟨Nat.le_trans h.1 k.1,Nat.le_trans h.2.1 k.2.1,Nat.le_trans h.2.2 k.2.2⟩
theorem Nf.iM(A:Nf)(k:Nat):A.le (A.state k):=⟨Nat.le_refl _,Nat.le_refl _,by simp[Nf.state]⟩
theorem Nf.iR(A:Nf)(a b:Nat):A.le (A.link a b):=⟨by simp[Nf.link],Nat.le_refl _,Nat.le_refl _⟩
theorem Nf.Nr(A:Nf)(a:Nat)(s:au)(b:Nat):A.le (A.edge a s b):=⟨Nat.le_refl _,by simp[Nf.edge],Nat.le_refl _⟩
theorem Ba(f:Nf×Nat→Nf×Nat)(hf:∀ z:Nf×Nat,z.1.le (f z).1):∀ (n:Nat) (z:Nf×Nat),z.1.le (bW f n z).1
 | 0,z=>by rw[bW];exact .refl _
 | n+1,z=>by rw[bW];exact(hf z).trans (Ba f hf n _)
theorem tC(f:Nf×Nat→Nf×Nat):∀ n z,bW f (n+1) z=f (bW f n z)
 | 0,z=>by rw[bW,bW,bW]
 | n+1,z=>by rw[bW,tC f n,←bW]
theorem Jf(p:Bool)(f:Nf×Nat→Nf×Nat)(hf:∀ z:Nf×Nat,z.1.le (f z).1)(z:Nf×Nat):z.1.le (su p f z).1:=by
 unfold su
 dsimp only
 exact((Nf.iM z.1 0).trans (Nf.iR _ z.2 z.1.states)).trans ((hf ((z.1.state 0).link z.2 z.1.states,z.1.states)).trans (Nf.iR _ _ _))
theorem Jg(l:List Nat)(b:Nat):∀ (N:Nf),N.le (l.foldl (fun z e=>z.link e b) N):=by
 induction l with
 | nil=>intro N;exact .refl _
 | cons e l ih=>intro N;rw[List.foldl_cons];exact(Nf.iR _ _ _).trans (ih _)
mutual
theorem oq:∀ (t:Tr) (z:Nf×Nat),z.1.le (bD t z).1
 | .mk k s kids lo hi,(y,f)=>by
  rw[bD]
  split
  ·exact Ns kids _
  split
  ·exact(Nu kids y f []).trans ((Nf.iM _ _).trans (Jg _ _ _))
  split
  ·exact Jf _ _ (fun z=>sD kids z) _
  split
  ·exact(sD kids _).trans ((Nf.iM _ _).trans ((Nf.iR _ _ _).trans (Nf.iR _ _ _)))
  split
  ·split
   ·exact .refl _
   ·dsimp only
    have h1:=Ba (nJ kids) (fun z=>sD kids z) lo.toNat (y,f)
    split
    ·exact h1.trans (Jf _ _ (fun z=>sD kids z) _)
    ·split
     ·exact h1
     ·exact h1.trans ((Nf.iM _ 0).trans ((Ba _ (fun z=>(Nf.iR _ _ _).trans (sD kids (_,_))) _ (_,_)).trans (Nf.iR _ _ _)))
  split
  ·exact .refl _
  split
  ·exact(Nf.iM _ 0).trans (Nf.Nr _ _ _ _)
  ·exact Nf.iM _ 0
theorem sD:∀ (l:List Tr) (z:Nf×Nat),z.1.le (nJ l z).1
 | [],z=>by rw[nJ];exact .refl _
 | x::_,z=>by rw[nJ];exact oq x z
theorem Ns:∀ (l:List Tr) (z:Nf×Nat),z.1.le (jR l z).1
 | [],z=>by rw[jR];exact .refl _
 | x::l,z=>by rw[jR];exact(oq x z).trans (Ns l _)
theorem Nu:∀ (l:List Tr) (y:Nf) (f:Nat) (ends:List Nat),y.le (fK l y f ends).1
 | [],y,_,_=>by rw[fK];exact .refl _
 | x::l,y,f,ends=>by rw[fK];exact(oq x (y,f)).trans (Nu l _ f _)
end
theorem Ce:∀ (l m:List Tr) (z:Nf×Nat),jR (l++m) z=jR m (jR l z)
 | [],m,z=>by rw[List.nil_append,jR]
 | x::l,m,z=>by rw[List.cons_append,jR,jR,Ce l m]
theorem YN(l:List Tr)(k:Nat)(h:k<l.length)(z:Nf×Nat):jR (l.take (k+1)) z=bD l[k] (jR (l.take k) z):=by
 rw[List.take_succ_eq_append_getElem h,Ce,jR,jR]
theorem Qz(l:List Tr)(k:Nat)(z:Nf×Nat):(jR (l.take k) z).1.le (jR l z).1:=by
 conv=>rhs;rw[←List.take_append_drop k l]
 rw[Ce];exact Ns _ _
theorem Ci:∀ (l m:List Tr) (y:Nf) (f:Nat) (ends:List Nat),fK (l++m) y f ends=fK m (fK l y f ends).1 f (fK l y f ends).2
 | [],m,y,f,ends=>by rw[List.nil_append,fK]
 | x::l,m,y,f,ends=>by rw[List.cons_append,fK,Ci l m,fK]
theorem YO(l:List Tr)(k:Nat)(h:k<l.length)(y:Nf)(f:Nat)(ends:List Nat) :
  fK (l.take (k+1)) y f ends=((bD l[k] ((fK (l.take k) y f ends).1,f)).1,(fK (l.take k) y f ends).2++[(bD l[k] ((fK (l.take k) y f ends).1,f)).2]):=by
 rw[List.take_succ_eq_append_getElem h,Ci,fK,fK]
theorem QA(l:List Tr)(k:Nat)(y:Nf)(f:Nat)(ends:List Nat):(fK (l.take k) y f ends).1.le (fK l y f ends).1:=by
 conv=>rhs;rw[←List.take_append_drop k l]
 rw[Ci];exact Nu _ _ _ _
theorem Jh:∀ (l:List Tr) (y:Nf) (f:Nat) (ends:List Nat),(fK l y f ends).2.length=ends.length+l.length
 | [],y,f,ends=>by rw[fK];rfl
 | x::l,y,f,ends=>by rw[fK,Jh l,List.length_append,List.length_cons];simp;omega
end
section
open Go.RowKit
def nS(z:Nf×Nat)(t:Tr):Nf×Nat:=(((bD t (z.1,0)).1.state (z.2+1)).link (bD t (z.1,0)).2 (bD t (z.1,0)).1.states,z.2+1)
def zU:Nf:=(⟨0,[],[],[]⟩:Nf).state 0
def qQ(l:List Tr):Nf×Nat:=l.foldl nS (zU,0)
def sW(l:List Tr):Nf:=(qQ l).1
theorem QB(z:Nf×Nat)(t:Tr):z.1.le (nS z t).1:=(oq t (z.1,0)).trans ((Nf.iM _ _).trans (Nf.iR _ _ _))
theorem QC:∀ (l:List Tr) (z:Nf×Nat),z.1.le (l.foldl nS z).1
 | [],_=>.refl _
 | x::l,z=>(QB z x).trans (QC l _)
theorem YP(l:List Tr)(k:Nat)(h:k<l.length):qQ (l.take (k+1))=nS (qQ (l.take k)) l[k]:=by
 unfold qQ;rw[List.take_succ_eq_append_getElem h,List.foldl_append];rfl
theorem QD(l:List Tr)(k:Nat):(qQ (l.take k)).1.le (qQ l).1:=by
 unfold qQ
 conv=>rhs;rw[←List.take_append_drop k l]
 rw[List.foldl_append];exact QC _ _
theorem abM(l:List Tr):(qQ l).2=l.length:=by
 have:∀ (l:List Tr) (z:Nf×Nat),(l.foldl nS z).2=z.2+l.length:=by
  intro l
  induction l with
  | nil=>intro z;rfl
  | cons x l ih=>intro z;rw[List.foldl_cons,ih,List.length_cons,nS];dsimp only;omega
 unfold qQ;rw[this];simp
structure Nf.wf(N:Nf):Prop where
 st:N.states=N.accept.length
 links:∀ x∈N.links,x.1<N.states∧x.2<N.states
 edges:∀ x∈N.edges,x.1<N.states∧x.2.2<N.states
 accept:∀ x∈N.accept,x≤64
def Nf.ok(z:Nf×Nat):Prop:=z.1.wf∧z.2<z.1.states
theorem Nf.wf.state{N:Nf}(h:N.wf){k:Nat}(hk:k≤64):(N.state k).wf:=by
 refine⟨?_,fun x hx=>?_,fun x hx=>?_,fun x hx=>?_⟩
 ·simp[Nf.state,h.st]
 ·have:=h.links x hx;simp only[Nf.state];omega
 ·have:=h.edges x hx;simp only[Nf.state];omega
 ·rcases List.mem_append.1 hx with hx | hx
  ·exact h.accept x hx
  ·simp at hx;omega
theorem Nf.wf.link{N:Nf}(h:N.wf){a b:Nat}(ha:a<N.states)(hb:b<N.states):(N.link a b).wf:=by
 refine⟨h.st,fun x hx=>?_,h.edges,h.accept⟩
 rcases List.mem_append.1 hx with hx | hx
 ·exact h.links x hx
 ·simp at hx;subst hx;exact⟨ha,hb⟩
theorem Nf.wf.edge{N:Nf}(h:N.wf){a b:Nat}{s:au}(ha:a<N.states)(hb:b<N.states):(N.edge a s b).wf:=by
 refine⟨h.st,h.links,fun x hx=>?_,h.accept⟩
 rcases List.mem_append.1 hx with hx | hx
 ·exact h.edges x hx
 ·simp at hx;subst hx;exact⟨ha,hb⟩
theorem Nf.wf.yA{A B:Nf}(h:A.wf)(k:B.wf)(l:A.le B):A.states≤B.states:=by rw[h.st,k.st];exact l.2.2
theorem Oo(f:Nf×Nat→Nf×Nat)(hf:∀ z,Nf.ok z→Nf.ok (f z)):∀ (n:Nat) (z:Nf×Nat),Nf.ok z→Nf.ok (bW f n z)
 | 0,z,h=>by rw[bW];exact h
 | n+1,z,h=>by rw[bW];exact Oo f hf n _ (hf z h)
theorem QE(p:Bool)(f:Nf×Nat→Nf×Nat)(hf:∀ z,Nf.ok z→Nf.ok (f z))(hm:∀ z:Nf×Nat,z.1.le (f z).1)(z:Nf×Nat)(h:Nf.ok z):Nf.ok (su p f z):=by
 unfold su
 dsimp only
 have h0:((z.1.state 0).link z.2 z.1.states).wf:=(h.1.state (by omega)).link (by simp only[Nf.state];have:=h.2;omega) (by simp only[Nf.state];omega)
 have h1:=hf ((z.1.state 0).link z.2 z.1.states,z.1.states) ⟨h0,by simp only[Nf.state,Nf.link];omega⟩
 have h2:=h0.yA h1.1 (hm ((z.1.state 0).link z.2 z.1.states,z.1.states))
 generalize f ((z.1.state 0).link z.2 z.1.states,z.1.states)=A at *
 simp only[Nf.state,Nf.link] at h2
 refine⟨h1.1.link h1.2 (by omega),?_⟩
 show(if p=true then A.2 else z.1.states)<A.1.states
 split
 ·exact h1.2
 ·omega
theorem abN(l:List Nat)(b:Nat):∀ (N:Nf),N.wf→b<N.states→(∀ x∈l,x<N.states)→(l.foldl (fun z e=>z.link e b) N).wf∧(l.foldl (fun z e=>z.link e b) N).states=N.states:=by
 induction l with
 | nil=>intro N h _ _;exact⟨h,rfl⟩
 | cons e l ih =>
  intro N h hb hl
  rw[List.foldl_cons]
  exact ih (N.link e b) (h.link (hl e (by simp)) hb) hb fun x hx=>hl x (by simp[hx])
mutual
theorem Hu:∀ (t:Tr) (z:Nf×Nat),Nf.ok z→Nf.ok (bD t z)
 | .mk k s kids lo hi,(y,f),h=>by
  rw[bD]
  split
  ·exact Vo kids _ h
  split
  ·obtain⟨h1,h2⟩:=Vp kids y f [] h (by simp)
   dsimp only
   generalize fK kids y f []=A at *
   obtain⟨h3,h4⟩:=abN A.2 A.1.states (A.1.state 0) (h1.state (by omega)) (by simp only[Nf.state];omega) (fun x hx=>by have:=h2 x hx;simp only[Nf.state];omega)
   exact⟨h3,by rw[h4];simp only[Nf.state];omega⟩
  split
  ·exact QE _ _ (fun z=>Df kids z) (fun z=>sD kids z) _ h
  split
  ·have h1:=Df kids (y,f) h
   have h2:=h.1.yA h1.1 (sD kids (y,f))
   dsimp only at h2 ⊢
   generalize nJ kids (y,f)=A at *
   have hf:f<y.states:=h.2
   exact⟨(((h1.1.state (by omega)).link (by simp only[Nf.state];have:=h1.2;omega) (by simp only[Nf.state];omega))).link (by simp only[Nf.state,Nf.link];omega) (by simp only[Nf.state,Nf.link];omega),by simp only[Nf.state,Nf.link];omega⟩
  split
  ·split
   ·exact h
   ·dsimp only
    have h1:=Oo (nJ kids) (fun z=>Df kids z) lo.toNat (y,f) h
    generalize bW (nJ kids) lo.toNat (y,f)=Z at *
    split
    ·exact QE _ _ (fun z=>Df kids z) (fun z=>sD kids z) _ h1
    ·split
     ·exact h1
     ·have h0:(Z.1.state 0).wf:=h1.1.state (by omega)
      have key:∀ (n:Nat) (z:Nf×Nat),Nf.ok z→Z.1.states<z.1.states→Nf.ok (bW (fun z=>nJ kids (z.1.link z.2 Z.1.states,z.2)) n z)∧Z.1.states<(bW (fun z=>nJ kids (z.1.link z.2 Z.1.states,z.2)) n z).1.states:=by
       intro n
       induction n with
       | zero=>intro z hz hs;rw[bW];exact⟨hz,hs⟩
       | succ n ih =>
        intro z hz hs
        rw[bW]
        have h2:=Df kids (z.1.link z.2 Z.1.states,z.2) ⟨hz.1.link hz.2 hs,hz.2⟩
        have h3:=(hz.1.link hz.2 hs).yA h2.1 (sD kids (z.1.link z.2 Z.1.states,z.2))
        exact ih _ h2 (by simp only[Nf.link] at h3 ⊢;omega)
      obtain⟨h2,h3⟩:=key (hi - lo).toNat (Z.1.state 0,Z.2) ⟨h0,by have:=h1.2;simp only[Nf.state];omega⟩ (by simp only[Nf.state];omega)
      exact⟨h2.1.link h2.2 h3,h3⟩
  split
  ·exact h
  split
  ·have hf:f<y.states:=h.2
   exact⟨(h.1.state (by omega)).edge (by simp only[Nf.state];omega) (by simp only[Nf.state];omega),by simp only[Nf.state,Nf.edge];omega⟩
  ·exact⟨h.1.state (by omega),by simp only[Nf.state];omega⟩
theorem Df:∀ (l:List Tr) (z:Nf×Nat),Nf.ok z→Nf.ok (nJ l z)
 | [],z,h=>by rw[nJ];exact h
 | x::_,z,h=>by rw[nJ];exact Hu x z h
theorem Vo:∀ (l:List Tr) (z:Nf×Nat),Nf.ok z→Nf.ok (jR l z)
 | [],z,h=>by rw[jR];exact h
 | x::l,z,h=>by rw[jR];exact Vo l _ (Hu x z h)
theorem Vp:∀ (l:List Tr) (y:Nf) (f:Nat) (ends:List Nat),Nf.ok (y,f)→(∀ x∈ends,x<y.states)→(fK l y f ends).1.wf∧∀ x∈(fK l y f ends).2,x<(fK l y f ends).1.states
 | [],y,_,ends,h,he=>by rw[fK];exact⟨h.1,he⟩
 | x::l,y,f,ends,h,he=>by
  rw[fK]
  have h1:=Hu x (y,f) h
  have h2:=h.1.yA h1.1 (oq x (y,f))
  have hf:f<y.states:=h.2
  refine Vp l _ f _ ⟨h1.1,by show f<(bD x (y,f)).1.states;dsimp only at h2;omega⟩ fun e he'=>?_
  rcases List.mem_append.1 he' with he' | he'
  ·have:=he e he';dsimp only at h2;omega
  ·simp at he';subst he';exact h1.2
end
theorem afy(l:List Tr)(hl:l.length≤64):(qQ l).1.wf∧0<(qQ l).1.states:=by
 have:∀ (l:List Tr) (z:Nf×Nat),z.1.wf→0<z.1.states→z.2+l.length≤64→(l.foldl nS z).1.wf∧0<(l.foldl nS z).1.states:=by
  intro l
  induction l with
  | nil=>intro z h1 h2 _;exact⟨h1,h2⟩
  | cons x l ih =>
   intro z h1 h2 h3
   rw[List.length_cons] at h3
   rw[List.foldl_cons]
   have g1:=Hu x (z.1,0) ⟨h1,h2⟩
   have g2:(nS z x).1.wf:=by
    unfold nS
    exact(g1.1.state (by omega)).link (by simp only[Nf.state];have:=g1.2;omega) (by simp only[Nf.state];omega)
   exact ih _ g2 (by have:=h1.yA g2 (QB z x);omega) (by unfold nS;dsimp only;omega)
 exact this l (zU,0) ⟨rfl,by simp[zU,Nf.state],by simp[zU,Nf.state],by simp[zU,Nf.state]⟩ (by simp[zU,Nf.state]) (by simpa using hl)
end
section
open Go.RowKit
def mix(s t:au)(j:Nat):au:=zI (if 0<j then word t 0 else word s 0) (if 1<j then word t 1 else word s 1) (if 2<j then word t 2 else word s 2) (if 3<j then word t 3 else word s 3)
theorem xq(s t:au)(j k:Nat)(hk:k<4):word (mix s t j) k=if k<j then word t k else word s k:=by
 unfold mix
 have hm:∀ i,(if i<j then word t i else word s i) % 2 ^ 64=if i<j then word t i else word s i:=fun i=>Nat.mod_eq_of_lt (by split <;> exact word_lt _ _)
 obtain⟨e0,e1,e2,e3⟩:=Qk (if 0<j then word t 0 else word s 0) (if 1<j then word t 1 else word s 1) (if 2<j then word t 2 else word s 2) (if 3<j then word t 3 else word s 3)
 match k,hk with
 | 0,_=>rw[e0,hm 0]
 | 1,_=>rw[e1,hm 1]
 | 2,_=>rw[e2,hm 2]
 | 3,_=>rw[e3,hm 3]
theorem QF(s t:au):mix s t 0=s:=word_inj fun i hi=>by rw[xq _ _ _ _ hi,if_neg (by omega)]
theorem QG(s t:au):mix s t 4=t:=word_inj fun i hi=>by rw[xq _ _ _ _ hi,if_pos hi]
theorem abO(s t:au)(j:Nat)(hj:j<4):(bT (mix s t j)).setIfInBounds j (.int .u64 (word t j:Nat))=bT (mix s t (j+1)):=by
 have h:=Qm (mix s t j) (mix s t (j+1)) j hj fun i hi hne=>by
  rw[xq _ _ _ _ hi,xq _ _ _ _ hi]
  by_cases h:i<j
  ·rw[if_pos h,if_pos (by omega)]
  ·rw[if_neg h,if_neg (by omega)]
 rwa[xq _ _ _ _ hj,if_pos (by omega)] at h
theorem Box.mix{w:World}{b E:Nat}{s t:au}{j:Nat}(h:Box w b (bT (mix s t j)) E)(hj:j<4)(v:Value)(hv:v=.int .u64 (word t j:Nat)):Box (w.setCell ⟨b,j,none⟩ v) b (bT (Proofs.YtengfapcaaacaaaGreatDoor.mix s t (j+1))) E:=by
 subst hv
 rw[←abO s t j hj]
 exact h.set j _
theorem Box.agv{w:World}{b E:Nat}{s t:au}{j:Nat}(h:Box w b (bT (Proofs.YtengfapcaaacaaaGreatDoor.mix s t j)) E)(hj:j<4):w.cell? ⟨b,j,none⟩=some (.int .u64 (word s j:Nat)):=by
 have:=h.agr hj
 rwa[xq _ _ _ _ hj,if_neg (by omega)] at this
theorem Bc(s:au)(j:Nat)(h:j<4)(w:World):(Instr.index 113 (.agg #[.int .u64 (word s 0:Nat),.int .u64 (word s 1:Nat),.int .u64 (word s 2:Nat),.int .u64 (word s 3:Nat)]) (.int .i64 (j:Nat))).run Tryz.prog w=.ok (.int .u64 (word s j:Nat)) w:=by
 have i0:(Instr.index 113 (.agg #[.int .u64 (word s 0:Nat),.int .u64 (word s 1:Nat),.int .u64 (word s 2:Nat),.int .u64 (word s 3:Nat)]) (.int .i64 (0:Nat))).run Tryz.prog w=.ok (.int .u64 (word s 0:Nat)) w:=by kernel_rfl
 have i1:(Instr.index 113 (.agg #[.int .u64 (word s 0:Nat),.int .u64 (word s 1:Nat),.int .u64 (word s 2:Nat),.int .u64 (word s 3:Nat)]) (.int .i64 (1:Nat))).run Tryz.prog w=.ok (.int .u64 (word s 1:Nat)) w:=by kernel_rfl
 have i2:(Instr.index 113 (.agg #[.int .u64 (word s 0:Nat),.int .u64 (word s 1:Nat),.int .u64 (word s 2:Nat),.int .u64 (word s 3:Nat)]) (.int .i64 (2:Nat))).run Tryz.prog w=.ok (.int .u64 (word s 2:Nat)) w:=by kernel_rfl
 have i3:(Instr.index 113 (.agg #[.int .u64 (word s 0:Nat),.int .u64 (word s 1:Nat),.int .u64 (word s 2:Nat),.int .u64 (word s 3:Nat)]) (.int .i64 (3:Nat))).run Tryz.prog w=.ok (.int .u64 (word s 3:Nat)) w:=by kernel_rfl
 match j,h with
 | 0,_=>exact i0
 | 1,_=>exact i1
 | 2,_=>exact i2
 | 3,_=>exact i3
theorem abP(s x:au)(j:Nat):bits BinOp.or IntKind.u64 (word s j:Nat) (word x j:Nat)=((word (s ||| x) j:Nat):Int):=by
 rw[aft,bits_or_u64_nat _ _ (word_lt _ _) (word_lt _ _)]
theorem afz(a:Nat)(h:a<2 ^ 64):(2 ^ 64 - 1) ^^^ a=18446744073709551615 - a:=by
 refine Nat.eq_of_testBit_eq fun i=>?_
 rw[Nat.testBit_xor,Nat.testBit_two_pow_sub_one,show 18446744073709551615 - a=2 ^ 64 - (a+1) by omega,Nat.testBit_two_pow_sub_succ h]
 by_cases hi:i<64
 ·simp[hi]
 ·simp[hi,Nat.testBit_lt_two_pow (Nat.lt_of_lt_of_le h (Nat.pow_le_pow_right (by decide) (show 64≤i by omega)))]
theorem YQ(s:au)(j:Nat)(hj:j<4):bits BinOp.xor IntKind.u64 IntKind.u64.max (word s j:Nat)=((word (~~~s) j:Nat):Int):=by
 rw[abx _ _ hj,show IntKind.u64.max=((2 ^ 64 - 1:Nat):Int) by decide,u64_xor_nat _ _ (by decide) (word_lt _ _),afz _ (word_lt _ _)]
theorem QH(s:au)(w:World):Calls Tryz.prog 254 #[.agg (bT s)] w (aY w (iK (~~~s))):=by
 have hop:=YQ s
 generalize ~~~s=t at *
 go_enter Tryz.func254,Tryz.ntmps254
 go_wp2
 go_loopw [6] (fun i wr=>∃ j:Nat,j≤4∧i=.int .i64 j∧Box wr w.heap.size (bT (mix s t j)) 113∧Box wr (w.heap.size+1) (bT 0) 113∧Below w.heap.size w wr) (fun i _=>4 - (intOf i).toNat)
 case atStart =>
  refine⟨0,Nat.zero_le _,rfl,?_,?_,by go_grown⟩
  ·rw[QF];exact(Box.new' rfl _ _).alloc _
  ·rw[gG];exact Box.new' (by simp) _ _
 case round =>
  obtain⟨j,hj,rfl,hb,h0,hB⟩:=hrel
  by_cases hlt:j<4
  ·have gw:=Bc s j hlt
   have hc:=hb.agv hlt
   have hf:=hb.free j
   have hv:=hop j hlt
   go_wp2
   go_roundw
   case rel=>exact⟨j+1,hlt,by go_num,hb.mix hlt _ (by rw[if_neg (by decide),hv]),h0.other _ _ (by simp),by go_grown⟩
   case measure=>simp[intOf];omega
  ·obtain rfl:j=4:=by omega
   rw[QG] at hb
   obtain⟨⟨p0,p1,p2,p3⟩,⟨q0,q1,q2,q3⟩⟩:=h0.jv
   obtain⟨⟨r0,r1,r2,r3⟩,_⟩:=hb.jv
   go_wp2
   exact cZ Tryz.results254 rfl (h0.eG rfl _ _ _ _) Tryz.underlying113 rfl (by kernel_rfl) rfl ⟨rfl,by go_grown⟩
theorem D7(a:Option Addr)(cap:Nat)(l:List au)(w:World)(h:ak w (.slice a l.length cap) 4 encS l) :
  Calls Tryz.prog 160 #[.slice a l.length cap] w (aY w (iK (l.foldl (· ||| ·) 0))):=by
 obtain⟨b,o,hlen,hcap,hcap',ha,hbl,hcell⟩:=h.sets
 clear hlen h hbl
 have HC:=ah hcell
 clear hcell
 go_enter Tryz.func160,Tryz.ntmps160
 go_wp2
 go_loopw [10] (fun i wr=>∃ j:Nat,j≤l.length∧i=.int .i64 j∧Box wr w.heap.size (bT 0) 113∧Box wr (w.heap.size+1) (bT ((l.take j).foldl (· ||| ·) 0)) 113∧Below w.heap.size w wr) (fun i _=>l.length - (intOf i).toNat)
 case atStart =>
  refine⟨0,Nat.zero_le _,rfl,?_,?_,by go_grown⟩
  ·rw[gG];exact(Box.new' rfl _ _).alloc _
  ·rw[List.take_zero,List.foldl_nil,gG];exact Box.new' (by simp) _ _
 case round =>
  obtain⟨j,hj,rfl,h0,hb,hB⟩:=hrel
  by_cases hlt:j<l.length
  ·have hdj:decide ((j:Int)<(l.length:Int))=true:=decide_eq_true (by omega)
   obtain rfl:=ha j hlt
   obtain⟨c0,c1,c2,c3⟩:=HC.out j hlt wr hB
   have e2:(l.take (j+1)).foldl (· ||| ·) 0=(l.take j).foldl (· ||| ·) 0 ||| l[j]:=by rw[List.take_succ_eq_append_getElem hlt,List.foldl_append];rfl
   have HE:=ah e2
   clear e2
   generalize l[j]=x at *
   generalize (l.take j).foldl (· ||| ·) 0=s at *
   have hop:=abP s x
   generalize s ||| x=t at *
   have hs0:=h0.lt
   have hs1:=hb.lt
   go_wp2
   go_loopw [15] (fun i wr=>∃ k:Nat,k≤4∧i=.int .i64 k∧Box wr w.heap.size (bT 0) 113∧Box wr (w.heap.size+1) (bT (mix s t k)) 113∧Below w.heap.size w wr) (fun i _=>4 - (intOf i).toNat)
   case atStart=>exact⟨0,Nat.zero_le _,rfl,h0.alloc _,by rw[QF];exact hb.alloc _,by go_grown⟩
   case round =>
    obtain⟨k,hk,rfl,h0,hb,hB⟩:=hrel
    by_cases hlt2:k<4
    ·have gw:=Bc x k hlt2
     have hc:=hb.agv hlt2
     have hf:=hb.free k
     have hv:=hop k
     go_wp2
     go_roundw
     case rel=>exact⟨k+1,hlt2,by go_num,h0.other _ _ (by simp),hb.mix hlt2 _ rfl,by go_grown⟩
     case measure=>simp[intOf];omega
    ·obtain rfl:k=4:=by omega
     rw[QG] at hb
     go_wp2
     go_roundw
     case rel=>exact⟨j+1,hlt,by go_num,h0,by rw[HE.out];exact hb,hB⟩
     case measure=>simp[intOf];omega
  ·obtain rfl:j=l.length:=by omega
   rw[List.take_length] at hb
   obtain⟨⟨p0,p1,p2,p3⟩,⟨q0,q1,q2,q3⟩⟩:=h0.jv
   obtain⟨⟨r0,r1,r2,r3⟩,_⟩:=hb.jv
   go_wp2
   exact cZ Tryz.results160 rfl (h0.eG rfl _ _ _ _) Tryz.underlying113 rfl (by kernel_rfl) rfl ⟨rfl,by go_grown⟩
end
end Go.Proofs.YtengfapcaaacaaaGreatDoor
