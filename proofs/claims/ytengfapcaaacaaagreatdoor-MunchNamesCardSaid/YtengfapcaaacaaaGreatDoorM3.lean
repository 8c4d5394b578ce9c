/- The texts of N3, in few letters (mini.py). -/
import Derived.Test.YtengfapcaaacaaaGreatDoorM2
import Derived.Laws.AppendOwnNone
import Derived.Lib.TrailingZeros
set_option linter.unusedVariables false
set_option linter.unusedSimpArgs false
namespace Go.Proofs.YtengfapcaaacaaaGreatDoor
section
def aI(R:Nat→Nat→Bool):Nat→List Nat
 | 0=>[]
 | n+1=>if (aI R n).any (R n) then aI R n else aI R n++[n]
def posR(R:Nat→Nat→Bool)(b:Nat):List Nat→Option Nat
 | []=>none
 | c::r=>if R b c then some 0 else (posR R b r).map (·+1)
def bf(R:Nat→Nat→Bool)(b:Nat):Nat:=(posR R b (aI R 256)).getD 0
def iL(R:Nat→Nat→Bool):Nat:=(aI R 256).length
def aW{κ:Type}[DecidableEq κ](k:Nat→κ)(b c:Nat):Bool:=decide (k b=k c)
theorem Og(R:Nat→Nat→Bool):aI R 0=[]:=rfl
theorem jE(R:Nat→Nat→Bool)(n:Nat):aI R (n+1)=if (aI R n).any (R n) then aI R n else aI R n++[n]:=rfl
theorem lN(R:Nat→Nat→Bool):∀ n,∀ c∈aI R n,c<n
 | 0,c,h=>by simp[aI] at h
 | n+1,c,h=>by
  unfold aI at h
  split at h
  ·exact Nat.lt_succ_of_lt (lN R n c h)
  ·rcases List.mem_append.1 h with h | h
   ·exact Nat.lt_succ_of_lt (lN R n c h)
   ·simp at h;omega
theorem tu(R:Nat→Nat→Bool):∀ (n i j:Nat) (_:i<j) (hj:j<(aI R n).length),(aI R n)[i]'(by omega)<(aI R n)[j]
 | 0,i,j,_,hj=>by simp[aI] at hj
 | n+1,i,j,hij,hj=>by
  by_cases h:(aI R n).any (R n)=true
  ·have e:aI R (n+1)=aI R n:=by rw[jE,if_pos h]
   simp only[e] at hj ⊢
   exact tu R n i j hij hj
  ·have e:aI R (n+1)=aI R n++[n]:=by rw[jE,if_neg h]
   simp only[e] at hj ⊢
   rw[List.length_append,List.length_singleton] at hj
   by_cases h2:j<(aI R n).length
   ·rw[List.getElem_append_left h2,List.getElem_append_left (by omega)]
    exact tu R n i j hij h2
   ·obtain rfl:j=(aI R n).length:=by omega
    rw[List.getElem_append_right (Nat.le_refl _),List.getElem_append_left (by omega)]
    simp
    exact lN R n _ (List.getElem_mem _)
theorem jT(R:Nat→Nat→Bool):∀ n,(aI R n).length≤n
 | 0=>by simp[aI]
 | n+1=>by
  have:=jT R n
  unfold aI
  split
  ·omega
  ·simp;omega
theorem BZ(R:Nat→Nat→Bool)(n:Nat):∀ m,∃ l,aI R (n+m)=aI R n++l
 | 0=>⟨[],by simp⟩
 | m+1=>by
  obtain⟨l,hl⟩:=BZ R n m
  by_cases h:(aI R (n+m)).any (R (n+m))=true
  ·exact⟨l,by rw[←Nat.add_assoc,jE,if_pos h,hl]⟩
  ·exact⟨l++[n+m],by rw[←Nat.add_assoc,jE,if_neg h,hl,List.append_assoc]⟩
theorem DU{R S:Nat→Nat→Bool}:∀ n,(∀ b c,b<n→c<n→R b c=S b c)→aI R n=aI S n
 | 0,_=>rfl
 | n+1,h=>by
  have ih:=DU (R:=R) (S:=S) n (fun b c hb hc=>h b c (by omega) (by omega))
  have e:(aI R n).any (R n)=(aI S n).any (S n):=by
   rw[←ih,Bool.eq_iff_iff]
   simp only[List.any_eq_true]
   constructor
   ·rintro⟨c,hc,hR⟩;exact⟨c,hc,by rw[←h n c (by omega) (by have:=lN R n c hc;omega)];exact hR⟩
   ·rintro⟨c,hc,hR⟩;exact⟨c,hc,by rw[h n c (by omega) (by have:=lN R n c hc;omega)];exact hR⟩
  rw[jE,jE,e,ih]
theorem Cb(R:Nat→Nat→Bool)(b:Nat):∀ l l':List Nat,posR R b (l++l')=(posR R b l).or ((posR R b l').map (·+l.length))
 | [],l'=>by simp[posR]
 | c::r,l'=>by
  simp only[List.cons_append,posR,Cb R b r l']
  split
  ·simp
  ·cases posR R b r <;> cases posR R b l' <;> simp[Nat.add_assoc]
theorem yw{R:Nat→Nat→Bool}{b:Nat}:∀ {l:List Nat},l.any (R b)=false→posR R b l=none
 | [],_=>rfl
 | c::r,h=>by
  simp only[List.any_cons,Bool.or_eq_false_iff] at h
  simp[posR,h.1,yw h.2]
theorem yx{R:Nat→Nat→Bool}{b:Nat}:∀ {l:List Nat},l.any (R b)=true→∃ i,posR R b l=some i∧i<l.length∧∃ c,l[i]?=some c∧R b c=true
 | [],h=>by simp at h
 | c::r,h=>by
  simp only[posR]
  by_cases hc:R b c=true
  ·exact⟨0,by simp[hc],by simp,c,by simp,hc⟩
  ·simp only[List.any_cons,hc,Bool.false_or] at h
   obtain⟨i,h1,h2,d,h3,h4⟩:=yx (R:=R) (b:=b) (l:=r) (by simpa using h)
   exact⟨i+1,by simp[hc,h1],by simpa using h2,d,by simpa using h3,h4⟩
theorem wY{R:Nat→Nat→Bool}(hr:∀ b,R b b=true){n b:Nat}(hb:b<n):(aI R n).any (R b)=true:=by
 obtain⟨m,rfl⟩:∃ m,n=b+1+m:=⟨n - (b+1),by omega⟩
 obtain⟨l,hl⟩:=BZ R (b+1) m
 rw[hl,List.any_append]
 have:(aI R (b+1)).any (R b)=true:=by
  rw[jE]
  split
  ·assumption
  ·simp[hr]
 simp[this]
theorem Oh{R:Nat→Nat→Bool}(hr:∀ b,R b b=true){n b:Nat}(hb:b<n)(hn:n≤256):posR R b (aI R n)=some (bf R b):=by
 obtain⟨m,hm⟩:∃ m,n+m=256:=⟨256 - n,by omega⟩
 obtain⟨l,hl⟩:=BZ R n m
 obtain⟨i,hi,_⟩:=yx (wY hr hb)
 have:posR R b (aI R 256)=some i:=by rw[←hm,hl,Cb,hi];rfl
 rw[hi,bf,this];rfl
theorem Jc{R:Nat→Nat→Bool}(hr:∀ b,R b b=true){n:Nat}(hn:n<256)(h:(aI R n).any (R n)=false):aI R (n+1)=aI R n++[n]∧bf R n=(aI R n).length:=by
 have e:aI R (n+1)=aI R n++[n]:=by rw[jE,h];rfl
 refine⟨e,?_⟩
 have h1:=Oh hr (Nat.lt_succ_self n) hn
 rw[e,Cb,yw h] at h1
 simpa [posR,hr] using h1.symm
theorem Jd{R:Nat→Nat→Bool}(hr:∀ b,R b b=true){n:Nat}(hn:n<256)(h:(aI R n).any (R n)=true):aI R (n+1)=aI R n∧posR R n (aI R n)=some (bf R n):=by
 have e:aI R (n+1)=aI R n:=by rw[jE,h];rfl
 refine⟨e,?_⟩
 rw[←e];exact Oh hr (Nat.lt_succ_self n) hn
theorem Hq{R:Nat→Nat→Bool}(hr:∀ b,R b b=true){b:Nat}(hb:b<256):bf R b<iL R:=by
 obtain⟨i,hi,hlt,_⟩:=yx (wY hr hb)
 unfold bf iL;rw[hi];exact hlt
theorem Hr(R:Nat→Nat→Bool):iL R≤256:=jT R 256
theorem WG{R:Nat→Nat→Bool}(hr:∀ b,R b b=true){b:Nat}(hb:b<256):bf R b<256:=Nat.lt_of_lt_of_le (Hq hr hb) (Hr R)
structure yO(R:Nat→Nat→Bool):Prop where
 refl:∀ b,R b b=true
 symm:∀ {b c},R b c=true→R c b=true
 trans:∀ {b c d},R b c=true→R c d=true→R b d=true
theorem Kq{R:Nat→Nat→Bool}(E:yO R){b c:Nat}(h:R b c=true):∀ l,posR R b l=posR R c l
 | []=>rfl
 | d::r=>by
  simp only[posR,Kq E h r]
  have:R b d=R c d:=by
   rw[Bool.eq_iff_iff];exact⟨fun k=>E.trans (E.symm h) k,fun k=>E.trans h k⟩
  rw[this]
theorem Ht{R:Nat→Nat→Bool}(E:yO R){b c:Nat}(hb:b<256)(hc:c<256):(bf R b=bf R c)↔R b c=true:=by
 constructor
 ·intro h
  obtain⟨i,hi,_,d,hd,hbd⟩:=yx (wY E.refl hb)
  obtain⟨j,hj,_,e,he,hce⟩:=yx (wY E.refl hc)
  have:i=j:=by unfold bf at h;rw[hi,hj] at h;exact h
  subst this
  rw[hd] at he
  obtain rfl:=Option.some.inj he
  exact E.trans hbd (E.symm hce)
 ·intro h;unfold bf;rw[Kq E h]
theorem Kr{R S:Nat→Nat→Bool}(h:∀ b c,b<256→c<256→R b c=S b c){b:Nat}(hb:b<256):bf R b=bf S b:=by
 unfold bf
 rw[DU (R:=R) (S:=S) 256 h]
 have:∀ l:List Nat,(∀ c∈l,c<256)→posR R b l=posR S b l:=by
  intro l
  induction l with
  | nil=>intro _;rfl
  | cons c r ih=>intro hl;simp only[posR,h b c hb (hl c (by simp)),ih (fun d hd=>hl d (by simp[hd]))]
 rw[this _ (lN S 256)]
theorem Kt{R S:Nat→Nat→Bool}(h:∀ b c,b<256→c<256→R b c=S b c):iL R=iL S:=by
 unfold iL;rw[DU 256 h]
theorem oL{κ:Type}[DecidableEq κ](k:Nat→κ):yO (aW k) :=
 ⟨fun b=>by simp[aW],fun h=>by simp only[aW,decide_eq_true_eq] at *;exact h.symm,fun h1 h2=>by simp only[aW,decide_eq_true_eq] at *;exact h1.trans h2⟩
def qC{κ:Type}(k:Nat→κ)(l:List Nat):List (κ×Value):=(l.zipIdx).map fun p=>(k p.1,.int .u8 (p.2:Nat))
theorem DV{κ:Type}(k:Nat→κ)(l:List Nat)(n:Nat):qC k (l++[n])=qC k l++[(k n,.int .u8 (l.length:Nat))]:=by
 unfold qC;rw[List.zipIdx_append];simp
theorem oh{κ:Type}(k:Nat→κ)(l:List Nat):(qC k l).length=l.length:=by simp[qC]
theorem DW{κ:Type}[DecidableEq κ](k:Nat→κ)(b:Nat)(l:List Nat):look (k b) (qC k l)=(posR (aW k) b l).map fun i=>Value.int .u8 (i:Nat):=by
 have gen:∀ (l:List Nat) (s:Nat),look (k b) ((l.zipIdx s).map fun p=>(k p.1,Value.int .u8 (p.2:Nat)))=(posR (aW k) b l).map fun i=>Value.int .u8 ((i+s:Nat):Int):=by
  intro l
  induction l with
  | nil=>intro s;rfl
  | cons c r ih =>
   intro s
   simp only[List.zipIdx_cons,List.map_cons,look,posR,aW,decide_eq_true_eq]
   by_cases h:k b=k c
   ·simp[h]
   ·simp only[h,if_false]
    rw[ih (s+1)]
    cases posR (aW k) b r <;> simp <;> omega
 exact gen l 0
def aS(f:Nat→Nat):Array Value:=(((List.range 256).map fun i=>((f i:Nat):Int)).map (Value.int .u8)).toArray
theorem aV(f:Nat→Nat):(aS f).size=256:=by simp[aS]
theorem kU(f g:Nat→Nat):(aS f).size=(aS g).size:=by rw[aV,aV]
theorem dS(f:Nat→Nat)(i:Nat)(h:i<256):(aS f)[i]?=some (.int .u8 (f i:Nat)):=by simp[aS,h]
theorem dP{f g:Nat→Nat}(h:∀ i,i<256→f i=g i):aS f=aS g:=by
 have e:((List.range 256).map fun i=>((f i:Nat):Int))=((List.range 256).map fun i=>((g i:Nat):Int)):=List.map_congr_left fun i hi=>by rw[h i (by simpa using hi)]
 unfold aS;rw[e]
theorem uD(f:Nat→Nat)(k v:Nat):(aS f).setIfInBounds k (.int .u8 (v:Nat))=aS (fun i=>if i=k then v else f i):=by
 apply Array.ext_getElem?
 intro i
 rw[Array.getElem?_setIfInBounds]
 by_cases hi:i<256
 ·rw[dS _ i hi,dS _ i hi,aV]
  by_cases hk:k=i
  ·subst hk;simp[hi]
  ·have:¬ i=k:=fun e=>hk e.symm
   simp[hk,this]
 ·have h1:(aS fun i=>if i=k then v else f i)[i]?=none:=by rw[Array.getElem?_eq_none];rw[aV];omega
  have h2:(aS f)[i]?=none:=by rw[Array.getElem?_eq_none];rw[aV];omega
  rw[h1,h2,aV]
  by_cases hk:k=i
  ·simp[hk,hi]
  ·simp[hk]
theorem gK(f:Nat→Nat):(aS f).all (·.oneCell')=true:=by
 rw[Array.all_eq_true_iff_forall_mem]
 intro v hv
 simp only[aS,List.mem_toArray,List.mem_map] at hv
 obtain⟨x,_,rfl⟩:=hv
 rfl
theorem pR{R:Nat→Nat→Bool}{n v:Nat}(h:bf R n=v):∀ i,i<256→(if i=n then v else if i<n then bf R i else 0)=if i<n+1 then bf R i else 0:=by
 intro i _
 by_cases h1:i=n
 ·subst h1;simp[h]
 ·by_cases h2:i<n
  ·simp[h1,h2,show i<n+1 by omega]
  ·simp[h1,h2,show ¬ i<n+1 by omega]
theorem nI(R:Nat→Nat→Bool):iL R=(aI R 256).length:=rfl
theorem DX{κ:Type}(k:Nat→κ)(R:Nat→Nat→Bool):qC k (aI R 0)=[]:=rfl
def kE(f g:Nat→Nat):Bool:=(List.range 256).all fun b=>f b==g b
theorem Ip(f g:Nat→Nat):kE f g=true↔∀ b,b<256→f b=g b:=by
 unfold kE;simp
theorem Oi{P:Program}{t e:TypeId}(hu:P.underlying t=some (.array 256 e))(he:P.underlying e=some (.int .u8))(hi:(P.info? e).map (fun i=>i.size)=some 1)(f g:Nat→Nat)(w:World) :
  (Op.equalIn 10000 t (.agg (aS f)) (.agg (aS g))).run P w=.ok (kE f g) w:=by
 cases hq:P.info? e with
 | none=>simp[hq] at hi
 | some i =>
  have hs:i.size=1:=by simpa [hq] using hi
  have hc:P.cellsOf e=1:=by simp[Program.cellsOf,hq,hs]
  have:=o7 (P:=P) 9998 hu he hq hc ((List.range 256).map fun i=>((f i:Nat):Int)) ((List.range 256).map fun i=>((g i:Nat):Int)) (by simp) (by simp) w
  refine this.trans ?_
  congr 1
  rw[Bool.eq_iff_iff,Ip]
  simp only[decide_eq_true_eq]
  constructor
  ·intro h b hb
   have:=List.map_inj_left.1 h b (by simpa using hb)
   omega
  ·intro h
   exact List.map_congr_left fun b hb=>by rw[h b (by simpa using hb)]
theorem rY{R:Nat→Nat→Bool}(E:yO R):∀ (n c d:Nat),c∈aI R n→d<c→R c d=false
 | 0,c,d,h,_=>by simp[aI] at h
 | n+1,c,d,h,hd=>by
  rw[jE] at h
  split at h
  ·exact rY E n c d h hd
  ·rename_i hn
   rcases List.mem_append.1 h with h | h
   ·exact rY E n c d h hd
   ·obtain rfl:c=n:=by simpa using h
    cases hR:R c d with
    | false=>rfl
    | true =>
     refine absurd ?_ hn
     obtain⟨r,hr,hdr⟩:=List.any_eq_true.1 (wY E.refl hd)
     exact List.any_eq_true.2 ⟨r,hr,E.trans hR hdr⟩
def cls(R:Nat→Nat→Bool)(n c:Nat):au:=nX fun d=>decide (d<n)&&R c d
theorem rZ(R:Nat→Nat→Bool)(n c d:Nat):mem (cls R n c) d=(decide (d<256)&&(decide (d<n)&&R c d)):=pO _ _
theorem YF{R:Nat→Nat→Bool}(E:yO R){n c:Nat}(hn:n≤256)(hc:c∈aI R n):leastOf (cls R n c)=c:=by
 have hlt:=lN R n c hc
 refine Py _ c (by omega) ?_ fun d hd=>?_
 ·rw[rZ];simp[hlt,E.refl];omega
 ·rw[rZ,rY E n c d hc hd];simp
theorem DY{R:Nat→Nat→Bool}{b:Nat}:∀ {l:List Nat} {p:Nat} (hp:p<l.length),R b l[p]=true→(∀ i (h:i<p),R b (l[i]'(by omega))=false)→posR R b l=some p
 | [],p,hp,_,_=>by simp at hp
 | c::r,0,_,h,_=>by simp at h;simp[posR,h]
 | c::r,p+1,hp,h,hno=>by
  have h0:=hno 0 (by omega)
  simp only[List.getElem_cons_zero] at h0
  have ih:=DY (R:=R) (b:=b) (l:=r) (p:=p) (by simpa using hp) (by simpa using h) (fun i hi=>by have:=hno (i+1) (by omega);simpa using this)
  simp[posR,h0,ih]
def vg(L:List au)(c:Nat):Nat:=(List.range L.length).foldl (fun acc i=>if mem (L.getD i 0) c then i else acc) 0
theorem Oj(L:List au)(s:au)(c:Nat):vg (L++[s]) c=if mem s c then L.length else vg L c:=by
 unfold vg
 rw[List.length_append,List.length_singleton,List.range_succ,List.foldl_append]
 simp only[List.foldl_cons,List.foldl_nil]
 have e1:(L++[s]).getD L.length 0=s:=by simp[List.getD]
 rw[e1]
 have:∀ (l:List Nat) (z:Nat),(∀ i∈l,i<L.length)→l.foldl (fun acc i=>if mem ((L++[s]).getD i 0) c then i else acc) z=l.foldl (fun acc i=>if mem (L.getD i 0) c then i else acc) z:=by
  intro l
  induction l with
  | nil=>intro z _;rfl
  | cons i l ih =>
   intro z h
   have e2:(L++[s]).getD i 0=L.getD i 0:=by simp[List.getD,List.getElem?_append_left (h i (by simp))]
   simp only[List.foldl_cons,e2]
   exact ih _ (fun j hj=>h j (by simp[hj]))
 rw[this _ _ (fun i hi=>by simpa using hi)]
attribute [irreducible] aI
theorem Qq{R:Nat→Nat→Bool}(E:yO R){c:Nat}(hc:c<256):∀ m,m≤(aI R 256).length →
  vg (((aI R 256).take m).map (cls R 256)) c=if bf R c<m then bf R c else 0
 | 0,_=>by simp[vg]
 | m+1,hm=>by
  rw[List.take_succ_eq_append_getElem hm,List.map_append,List.map_cons,List.map_nil,Oj,Qq E hc m (by omega),List.length_map,List.length_take,Nat.min_eq_left (by omega)]
  have hmem:mem (cls R 256 (aI R 256)[m]) c=R (aI R 256)[m] c:=by rw[rZ];simp[hc]
  have hr:=lN R 256 _ (List.getElem_mem hm)
  have hnum:bf R (aI R 256)[m]=m:=by
   have:=DY (R:=R) (b:=(aI R 256)[m]) (l:=aI R 256) (p:=m) hm (E.refl _) (fun i hi=>by
    have h1:=rY E 256 (aI R 256)[m] (aI R 256)[i] (List.getElem_mem _)
    have h2:=tu R 256 i m hi hm
    exact h1 h2)
   unfold bf;rw[this];rfl
  rw[hmem]
  by_cases h:R (aI R 256)[m] c=true
  ·have:=(Ht E hr hc).2 h
   rw[if_pos h,←this,hnum,if_pos (Nat.lt_succ_self m)]
  ·have:bf R c≠m:=fun e=>h ((Ht E hr hc).1 (by rw[hnum,e]))
   rw[if_neg h]
   by_cases h2:bf R c<m
   ·rw[if_pos h2,if_pos (by omega)]
   ·rw[if_neg h2,if_neg (by omega)]
attribute [irreducible] aS bf iL posR qC kE
end
section
open Go.RowKit
section
variable {P:Program} {ops:Array Oper} {Q:Exit→Act→World→Prop} {md:Region.Mode} {R:World→World→Prop} {T:List Nat}
def mV(P:Program)(md:Region.Mode)(ops:Array Oper)(Q:Exit→Act→World→Prop)(R:World→World→Prop)(T:List Nat):Nat→Array Bool→Act→World→Prop
 | 0,listed,a,w=>∀ w1,R w w1→Region.ready md ops listed=[]∧Q .normal a w1
 | fuel+1,listed,a,w=>∀ w1,R w w1→(Region.ready md ops listed=[]→Q .normal a w1) ∧
   ∀ i∈Region.ready md ops listed,wpOp P ops Q i (fun a' w'=>(T.contains i=false→R w1 w')∧mV P md ops Q R T fuel (listed.setIfInBounds i true) a' w') a w1
theorem mV.later(ht:∀ a b c,R a b→R b c→R a c):∀ {fuel:Nat} {listed:Array Bool} {a:Act} {w w':World},mV P md ops Q R T fuel listed a w→R w w'→mV P md ops Q R T fuel listed a w'
 | 0,_,_,_,_,h,hr=>fun w1 h1=>h w1 (ht _ _ _ hr h1)
 | _+1,_,_,_,_,h,hr=>fun w1 h1=>h w1 (ht _ _ _ hr h1)
theorem Ku(hr:∀ a,R a a):∀ (fuel:Nat) (listed:Array Bool) (a:Act) (w:World),mV P md ops Q R T fuel listed a w→wpAny P md ops Q fuel listed a w
 | 0,_,_,w,h=>h w (hr w)
 | fuel+1,_,_,w,h=>⟨(h w (hr w)).1,fun i hi=>wpOp_mono (fun a' w' h'=>Ku hr fuel _ a' w' h'.2) ((h w (hr w)).2 i hi)⟩
theorem Fh(hrefl:∀ a,R a a)(ht:∀ a b c,R a b→R b c→R a c){i:Nat}{oi:Oper}{v:Value}(hi:ops[i]?=some oi)(hsel:∀ (j:Nat) (o:Oper) cs b,ops[j]?=some o→o.op≠.select cs b)
  (hQ:∀ c a w,Q (.panic c) (a.put oi.dst v) w→Q (.panic c) a w) (hit:T.contains i=false):∀ (fuel:Nat) (listed:Array Bool) (a:Act) (w:World),Cl md ops listed →
   (∀ j oj,ops[j]?=some oj→j≠i→listed.getD j true=false→(∀ e∈oj.after,Region.binds md e=true→e.on≠i)→oi.apart ops oj=true) →
   i∈Region.ready md ops listed→((Gives P ops R oi v a w∧∀ t∈T,needs md ops i ops.size t=true)∨∀ w0,Gives P ops R oi v a w0) →
   mV P md ops Q R T fuel (listed.setIfInBounds i true) (a.put oi.dst v) w→mV P md ops Q R T (fuel+1) listed a w:=by
 intro fuel
 induction fuel with
 | zero =>
  intro listed a w _ _ hr hg H w1 hw1
  have hy:Gives P ops R oi v a w:=hg.elim (·.1) (· w)
  refine⟨fun h=>(by rw[h] at hr;cases hr),fun j hj=>?_⟩
  by_cases hji:j=i
  ·subst hji
   exact hy.wpOp hrefl hi hw1 fun w2 h2=>⟨fun _=>h2,fun w3 h3=>H w3 (ht _ _ _ hw1 (ht _ _ _ h2 h3))⟩
  ·have:=ready_mono hj hji
   rw[(H w (hrefl _)).1] at this
   cases this
 | succ fuel ih =>
  intro listed a w hcl hfree hr hg H w1 hw1
  have hy:Gives P ops R oi v a w:=hg.elim (·.1) (· w)
  refine⟨fun h=>(by rw[h] at hr;cases hr),fun j hj=>?_⟩
  by_cases hji:j=i
  ·subst hji
   exact hy.wpOp hrefl hi hw1 fun w2 h2=>⟨fun _=>h2,mV.later ht H (ht _ _ _ hw1 h2)⟩
  ·have h1:=(H w1 hw1).2 j (ready_mono hj hji)
   obtain⟨hjun,oj,hoj,hall⟩:=mem_ready.1 hj
   have hjt:(∀ t∈T,needs md ops i ops.size t=true)→T.contains j=false:=fun hn=>by
    cases hc:T.contains j with
    | false=>rfl
    | true =>
     have h5:=zQ hcl _ _ _ hoj hall (hn j (by simpa using hc))
     have h6:=(mem_ready.1 hr).1
     rcases Nat.lt_or_ge i listed.size with h' | h'
     ·simp[h'] at h5 h6;rw[h6] at h5;cases h5
     ·simp[Array.getElem?_eq_none h'] at h5
   have hnot:∀ e∈oj.after,Region.binds md e=true→e.on≠i:=fun e he hb heq=>by
    have h1:=hall e he hb
    have h0:=(mem_ready.1 hr).1
    rw[heq] at h1
    rcases Nat.lt_or_ge i listed.size with h' | h'
    ·simp[h'] at h0 h1;rw[h0] at h1;cases h1
    ·simp[Array.getElem?_eq_none h'] at h1
   have h2:=Oc (R:=R) hoj (hfree j oj hoj hji hjun hnot) (fun cs b=>hsel i oi cs b hi) (fun cs b=>hsel j oj cs b hoj) hQ h1
   have hfree':∀ k ok,ops[k]?=some ok→k≠i→(listed.setIfInBounds j true).getD k true=false →
     (∀ e∈ok.after,Region.binds md e=true→e.on≠i)→oi.apart ops ok=true:=fun k ok hk hki hun hno=>by
    refine hfree k ok hk hki ?_ hno
    by_cases hjk:j=k
    ·subst hjk;exact hjun
    ·rw[getD_set_ne true hjk] at hun;exact hun
   refine wpOp_mono (fun a' w' h3=>⟨h3.2.1,ih (listed.setIfInBounds j true) a' w' (hcl.step hj) hfree' (ready_mono hr (Ne.symm hji)) (hg.elim (fun hg=>.inl ⟨h3.1 _ (hy.later ht (ht _ _ _ hw1 (h3.2.1 (hjt hg.2)))),hg.2⟩) (fun hg=>.inr fun w0=>h3.1 w0 (hg w0))) ?_⟩) h2
   rw[Array.setIfInBounds_comm _ _ hji]
   exact h3.2.2
end
section
variable {P:Program} {ops:Array Oper} {Q:Exit→Act→World→Prop} {md:Region.Mode} {T:List Nat} {R:World→World→Prop}
theorem wZ{listed:Array Bool}{i:Nat}(hc:(uH md ops listed&&T.all (needs md ops i ops.size ·)&&!T.contains i)=true):Cl md ops listed∧(∀ t∈T,needs md ops i ops.size t=true)∧T.contains i=false:=by
 simp only[Bool.and_eq_true,Bool.not_eq_true',List.all_eq_true] at hc
 exact⟨Cl.ofB hc.1.1,hc.1.2,hc.2⟩
theorem Ol{listed:Array Bool}{i:Nat}(hc:(uH md ops listed&&!T.contains i)=true):Cl md ops listed∧T.contains i=false:=by
 simp only[Bool.and_eq_true,Bool.not_eq_true'] at hc
 exact⟨Cl.ofB hc.1,hc.2⟩
theorem DZ[hR:jw R]{i:Nat}{oi:Oper}{v:Value}{fuel:Nat}{listed:Array Bool}{a:Act}{w:World}(hi:ops[i]?=some oi)
  (hs:Region.noSelect ops=true) (hf:Region.free md ops listed i=true) (hr:(Region.ready md ops listed).contains i=true) (hc:(uH md ops listed&&T.all (needs md ops i ops.size ·)&&!T.contains i)=true)
  (hQ:∀ c a w,Q (.panic c) (a.put oi.dst v) w→Q (.panic c) a w) (hw:Region.wanted oi (yielded ops a.tmps)=true) (hy:∀ w1,R w w1→(execOp a.eval oi).run P w1=.ok (.value v) w1)
  (h:mV P md ops Q R T fuel (listed.setIfInBounds i true) (a.put oi.dst v) w):mV P md ops Q R T (fuel+1) listed a w :=
 Fh hR.refl hR.trans hi (Region.noSelect_spec hs) hQ (wZ hc).2.2 fuel listed a w (wZ hc).1 (Region.free_spec hi hf) (by simpa using hr) (.inl ⟨.inl ⟨hw,fun w1 h1=>.inl (hy w1 h1)⟩,(wZ hc).2.1⟩) h
theorem abC[hR:jw R]{i:Nat}{oi:Oper}{v:Value}{fuel:Nat}{listed:Array Bool}{a:Act}{w:World}(hi:ops[i]?=some oi)
  (hs:Region.noSelect ops=true) (hf:Region.free md ops listed i=true) (hr:(Region.ready md ops listed).contains i=true) (hc:(uH md ops listed&&!T.contains i)=true)
  (hQ:∀ c a w,Q (.panic c) (a.put oi.dst v) w→Q (.panic c) a w) (hw:Region.wanted oi (yielded ops a.tmps)=true) (hy:∀ w1,(execOp a.eval oi).run P w1=.ok (.value v) w1)
  (h:mV P md ops Q R T fuel (listed.setIfInBounds i true) (a.put oi.dst v) w):mV P md ops Q R T (fuel+1) listed a w :=
 Fh hR.refl hR.trans hi (Region.noSelect_spec hs) hQ (Ol hc).2 fuel listed a w (Ol hc).1 (Region.free_spec hi hf) (by simpa using hr) (.inr fun _=>.inl ⟨hw,fun w1 _=>.inl (hy w1)⟩) h
theorem abD[hR:jw R]{i:Nat}{oi:Oper}{v:Value}{fuel:Nat}{listed:Array Bool}{a:Act}{w:World}{f:FuncId}{args:Array Value}(hi:ops[i]?=some oi)
  (hs:Region.noSelect ops=true) (hf:Region.free md ops listed i=true) (hr:(Region.ready md ops listed).contains i=true) (hc:(uH md ops listed&&T.all (needs md ops i ops.size ·)&&!T.contains i)=true)
  (hQ:∀ c a w,Q (.panic c) (a.put oi.dst v) w→Q (.panic c) a w) (hw:Region.wanted oi (yielded ops a.tmps)=true) (he:∀ w1,(execOp a.eval oi).run P w1=.ok (.enter f args) w1)
  (hy:∀ w1,R w w1→Calls P f args w1 (aY w1 v))
  (h:mV P md ops Q R T fuel (listed.setIfInBounds i true) (a.put oi.dst v) w):mV P md ops Q R T (fuel+1) listed a w :=
 Fh hR.refl hR.trans hi (Region.noSelect_spec hs) hQ (wZ hc).2.2 fuel listed a w (wZ hc).1 (Region.free_spec hi hf) (by simpa using hr) (.inl ⟨.inl ⟨hw,fun w1 h1=>.inr ⟨f,args,he w1,(hy w1 h1).mono fun _ _ k=>⟨k.1,hR.later _ _ k.2⟩⟩⟩,(wZ hc).2.1⟩) h
theorem dw{i:Nat}{oi:Oper}{fuel:Nat}{listed:Array Bool}{a:Act}{w:World}(hr:Region.ready md ops listed=[i])(hi:ops[i]?=some oi)
  (h:∀ w1,R w w1→∀ K:Act→World→Prop,Shut (∀ a' w',(T.contains i=false→R w1 w')→mV P md ops Q R T fuel (listed.setIfInBounds i true) a' w'→K a' w')→if Region.wanted oi (yielded ops a.tmps)=true then Oper.wp P oi a w1 K Q else K (a.put oi.dst undef) w1) :
  mV P md ops Q R T (fuel+1) listed a w:=fun w1 h1=>by
 refine⟨fun h0=>(by rw[hr] at h0;cases h0),fun j hj=>?_⟩
 rw[hr,List.mem_singleton] at hj
 subst hj
 exact wpOp_step hi (fun K' hK=>h w1 h1 K' (fun a' w' k1 k2=>hK a' w' ⟨k1,k2⟩))
theorem Vm{i j:Nat}{oi oj:Oper}{fuel:Nat}{listed:Array Bool}{a:Act}{w:World}(hr:Region.ready md ops listed=[i,j])(hi:ops[i]?=some oi)(hj:ops[j]?=some oj)
  (h1:∀ w1,R w w1→∀ K:Act→World→Prop,Shut (∀ a' w',(T.contains i=false→R w1 w')→mV P md ops Q R T fuel (listed.setIfInBounds i true) a' w'→K a' w')→if Region.wanted oi (yielded ops a.tmps)=true then Oper.wp P oi a w1 K Q else K (a.put oi.dst undef) w1)
  (h2:∀ w1,R w w1→∀ K:Act→World→Prop,Shut (∀ a' w',(T.contains j=false→R w1 w')→mV P md ops Q R T fuel (listed.setIfInBounds j true) a' w'→K a' w')→if Region.wanted oj (yielded ops a.tmps)=true then Oper.wp P oj a w1 K Q else K (a.put oj.dst undef) w1) :
  mV P md ops Q R T (fuel+1) listed a w:=fun w1 hw1=>by
 refine⟨fun h0=>(by rw[hr] at h0;cases h0),fun k hk=>?_⟩
 rw[hr,List.mem_cons,List.mem_singleton] at hk
 rcases hk with rfl | rfl
 ·exact wpOp_step hi (fun K' hK=>h1 w1 hw1 K' (fun a' w' k1 k2=>hK a' w' ⟨k1,k2⟩))
 ·exact wpOp_step hj (fun K' hK=>h2 w1 hw1 K' (fun a' w' k1 k2=>hK a' w' ⟨k1,k2⟩))
theorem kK{listed:Array Bool}{a:Act}{w:World}(hr:Region.ready md ops listed=[])(h:∀ w1,R w w1→Q .normal a w1):∀ fuel,mV P md ops Q R T fuel listed a w
 | 0=>fun w1 h1=>⟨hr,h w1 h1⟩
 | _+1=>fun w1 h1=>⟨fun _=>h w1 h1,by rw[hr];simp⟩
theorem jq[hR:jw R](T:List Nat){id:Nat}{a:Act}{w:World}(hm:P.follows .mixedOrders=true)
  (h:mV P .any ops Q R T ops.size (Array.replicate ops.size false) a w.drew):(Code.region id ops true).wp P Q a w :=
 wp_region_any hm (Ku hR.refl _ _ _ _ h)
theorem AY[hR:jw R](i:Nat){oi:Oper}(v:Value){fuel:Nat}{listed:Array Bool}{a:Act}{w:World}(hi:ops[i]?=some oi)(hy:∀ w1,R w w1→(execOp a.eval oi).run P w1=.ok (.value v) w1)
  (h:mV P md ops Q R T fuel (listed.setIfInBounds i true) (a.put oi.dst v) w) (hw:Region.wanted oi (yielded ops a.tmps)=true:=by rfl)
  (hc:(Region.noSelect ops&&(Region.free md ops listed i&&((Region.ready md ops listed).contains i&&(uH md ops listed&&T.all (needs md ops i ops.size ·)&&!T.contains i))))=true:=by kernel_rfl)
  (hQ:∀ c a w,Q (.panic c) (a.put oi.dst v) w→Q (.panic c) a w:=by exact fun _ _ _ h=>h):mV P md ops Q R T (fuel+1) listed a w:=by
 rw[Bool.and_eq_true,Bool.and_eq_true,Bool.and_eq_true] at hc
 exact DZ hi hc.1 hc.2.1 hc.2.2.1 hc.2.2.2 hQ hw hy h
theorem Kv[hR:jw R](i:Nat){oi:Oper}(v:Value){fuel:Nat}{listed:Array Bool}{a:Act}{w:World}(hi:ops[i]?=some oi)(hy:∀ w1,(execOp a.eval oi).run P w1=.ok (.value v) w1)
  (h:mV P md ops Q R T fuel (listed.setIfInBounds i true) (a.put oi.dst v) w) (hw:Region.wanted oi (yielded ops a.tmps)=true:=by rfl)
  (hc:(Region.noSelect ops&&(Region.free md ops listed i&&((Region.ready md ops listed).contains i&&(uH md ops listed&&!T.contains i))))=true:=by kernel_rfl)
  (hQ:∀ c a w,Q (.panic c) (a.put oi.dst v) w→Q (.panic c) a w:=by exact fun _ _ _ h=>h):mV P md ops Q R T (fuel+1) listed a w:=by
 rw[Bool.and_eq_true,Bool.and_eq_true,Bool.and_eq_true] at hc
 exact abC hi hc.1 hc.2.1 hc.2.2.1 hc.2.2.2 hQ hw hy h
theorem oM[hR:jw R]{i:Nat}{l:List Nat}{oi:Oper}(v:Value){fuel:Nat}{listed:Array Bool}{a:Act}{w:World}(hi:ops[i]?=some oi)(hy:∀ w1,(execOp a.eval oi).run P w1=.ok (.value v) w1)
  (h:Pl l (mV P md ops Q R T fuel (listed.setIfInBounds i true) (a.put oi.dst v) w)) (hw:Region.wanted oi (yielded ops a.tmps)=true:=by rfl)
  (hc:(Region.noSelect ops&&(Region.free md ops listed i&&((Region.ready md ops listed).contains i&&(uH md ops listed&&!T.contains i))))=true:=by kernel_rfl)
  (hQ:∀ c a w,Q (.panic c) (a.put oi.dst v) w→Q (.panic c) a w:=by exact fun _ _ _ h=>h):Pl (i::l) (mV P md ops Q R T (fuel+1) listed a w):=by
 unfold Pl at *
 exact Kv i v hi hy h hw hc hQ
theorem clT[hR:jw R](i:Nat){oi:Oper}(f:FuncId)(args:Array Value)(v:Value){fuel:Nat}{listed:Array Bool}{a:Act}{w:World}(hi:ops[i]?=some oi)
  (he:∀ w1,(execOp a.eval oi).run P w1=.ok (.enter f args) w1) (hy:∀ w1,R w w1→Calls P f args w1 (aY w1 v))
  (h:mV P md ops Q R T fuel (listed.setIfInBounds i true) (a.put oi.dst v) w) (hw:Region.wanted oi (yielded ops a.tmps)=true:=by rfl)
  (hc:(Region.noSelect ops&&(Region.free md ops listed i&&((Region.ready md ops listed).contains i&&(uH md ops listed&&T.all (needs md ops i ops.size ·)&&!T.contains i))))=true:=by kernel_rfl)
  (hQ:∀ c a w,Q (.panic c) (a.put oi.dst v) w→Q (.panic c) a w:=by exact fun _ _ _ h=>h):mV P md ops Q R T (fuel+1) listed a w:=by
 rw[Bool.and_eq_true,Bool.and_eq_true,Bool.and_eq_true] at hc
 exact abD hi hc.1 hc.2.1 hc.2.2.1 hc.2.2.2 hQ hw he hy h
end
end
section
open Go.RowKit
theorem bM{P:Program}{ops:Array Oper}{rest:List Oper}{o:Oper}{a:Act}{w:World}{Q:Exit→Act→World→Prop}(hw:Region.wanted o (yielded ops a.tmps)=true)(ty:TypeId)(x:Operand)(ho:o.op=.load ty x)
  (g:Nat) (hx:a.eval x=.pointer (some ⟨g,0,none⟩)) (t:TypeId) (cs:Array Value) (fr:Nat×Nat) (d:TypeDesc) (hg:w.heap[g]?=some (.cells cs t fr))
  (hu:P.underlying ty=some d) (hd:(match d with | .struct _ | .array _ _=>true | _=>false)=true) (hi:(P.info? ty).map (·.size)=some cs.size)
  (h:wpList P ops Q rest (a.put o.dst (.agg cs)) w):wpList P ops Q (o::rest) a w :=
 BigFrame.wpList_want hw fun _ hK=>wp_load_row ty x ho g hx t cs fr d hg hu hd hi (hK _ _ h)
end
section
open Go.RowKit
theorem Own.less{α:Type}{w:World}{qB E size n cap:Nat}{enc:α→List Value}{a:Option Addr}{xs ys:List α}(h:Own w qB E size enc (.slice a n cap) (xs++ys)):Own w qB E size enc (.slice a xs.length cap) xs:=by
 obtain⟨a',cap',hv,hle,hm,hh⟩:=h
 obtain⟨rfl,_,rfl⟩:=Value.slice.inj hv
 rw[List.length_append] at hle
 refine⟨_,_,rfl,by omega,hm,?_⟩
 rcases hh with hh | ⟨g,cur,ha,hbg,hg,hs,hx⟩
 ·exact .inl hh
 ·refine .inr ⟨g,cur,ha,hbg,hg,hs,fun i hi j hj=>?_⟩
  have:=hx i (by rw[List.length_append];omega) j hj
  rwa[List.getElem_append_left hi] at this
end
section
open Go.RowKit
def Halt(p:Prop):Prop:=p
theorem Halt.go{p:Prop}(h:Halt p):p:=h
theorem Halt.gen{P:Program}{ops:Array Oper}{l:List Oper}{Q:Exit→Act→World→Prop}{a:Act}{w:World}(h:∀ W,W=w→wpList P ops Q l a W):Halt (wpList P ops Q l a w):=h w rfl
end
section
open Go.RowKit
theorem Own.empty'{α:Type}{w:World}{b:Nat}(hb:b=w.heap.size)(qB E size:Nat)(enc:α→List Value)(h:qB≤w.heap.size):Own (w.alloc (.cells #[] E)) qB E size enc (.slice (some ⟨b,0,none⟩) 0 0) []:=by
 subst hb;exact Own.empty w qB E size enc h
theorem iU.open{α:Type}{w w':World}{E size:Nat}{enc:α→List Value}{L:List α}{e:Ending}(h:iU w E size enc L e w'):∃ (a:Option Addr) (cap:Nat),e=.returned (.slice a L.length cap)∧Own w' w.heap.size E size enc (.slice a L.length cap) L∧Below w.heap.size w w':=h
end
section
def jy(v:Nat):List Nat:=(List.range 64).filter fun j=>v.testBit j
theorem Iq:jy 0=[]:=by simp[jy]
theorem Qr(v:Nat)(h0:v≠0)(h:v<18446744073709551616):jy v=Lib.ctz 64 v::jy (v &&& (v - 1))∧Lib.ctz 64 v<64∧v &&& (v - 1)<v:=by
 obtain⟨m,hm,hk⟩:=Lib.ctzFrom_spec 64 v (by omega) h
 have e:Lib.ctz 64 v=Lib.ctzFrom 64 v:=by simp[Lib.ctz,h0]
 rw[e]
 generalize Lib.ctzFrom 64 v=k at *
 have hp:0<2 ^ k:=Nat.pow_pos (by decide)
 have h1:v - 1=2 ^ k*(2*m)+(2 ^ k - 1):=by rw[hm,Nat.mul_add];omega
 have tv:∀ j,v.testBit j=(decide (k≤j)&&(2*m+1).testBit (j - k)):=fun j=>by rw[hm,Nat.testBit_two_pow_mul]
 have tp:∀ j,(v &&& (v - 1)).testBit j=(decide (k<j)&&v.testBit j):=fun j=>by
  rw[Nat.testBit_and,h1,Nat.testBit_two_pow_mul_add _ (by omega),tv]
  by_cases a:j<k
  ·simp[a,show ¬ k≤j by omega,show ¬ k<j by omega]
  ·by_cases b:j=k
   ·subst b;simp
   ·obtain⟨d,rfl⟩:∃ d,j=k+(d+1):=⟨j - k - 1,by omega⟩
    rw[show k+(d+1) - k=d+1 by omega]
    simp[Nat.testBit_succ,show ¬ k+(d+1)<k by omega,show k≤k+(d+1) by omega,show k<k+(d+1) by omega]
    rw[show(2*m+1) / 2=m by omega]
    exact id
 refine⟨?_,hk,?_⟩
 ·unfold jy
  have hr:List.range 64=List.range k++(k::(List.range (64 - (k+1))).map (k+1+·)):=by
   rw[show(64:Nat)=(k+1)+(64 - (k+1)) by omega,List.range_add,List.range_succ]
   simp
  rw[hr,List.filter_append,List.filter_append,List.filter_cons,List.filter_cons]
  have f1:(List.range k).filter (fun j=>v.testBit j)=[]:=List.filter_eq_nil_iff.2 fun x hx=>by rw[tv];simp[Nat.not_le.2 (List.mem_range.1 hx)]
  have f2:(List.range k).filter (fun j=>(v &&& (v - 1)).testBit j)=[]:=List.filter_eq_nil_iff.2 fun x hx=>by rw[tp];simp[Nat.not_lt.2 (Nat.le_of_lt (List.mem_range.1 hx))]
  have f3:v.testBit k=true:=by rw[tv];simp
  have f4:(v &&& (v - 1)).testBit k=false:=by rw[tp];simp
  rw[f1,f2,f3,f4]
  simp only[List.nil_append,if_true,Bool.false_eq_true,if_false]
  congr 1
  refine List.filter_congr fun x hx=>?_
  obtain⟨y,_,rfl⟩:=List.mem_map.1 hx
  rw[tp];simp[show k<k+1+y by omega]
 ·exact Nat.lt_of_le_of_lt Nat.and_le_right (by omega)
def jU(i v:Nat):List Nat:=(jy v).map (64*i+·)
def elems(s:au):List Nat:=(List.range 256).filter (mem s)
def zu(s:au):Nat→Nat→List Nat
 | _,0=>[]
 | i,f+1=>jU i (word s i)++zu s (i+1) f
theorem Qs(s:au)(i:Nat):((List.range 64).map (64*i+·)).filter (mem s)=jU i (word s i):=by
 rw[List.filter_map]
 unfold jU jy
 congr 1
 refine List.filter_congr fun x hx=>?_
 rw[gq];simp[List.mem_range.1 hx]
theorem Ir(s:au):elems s=zu s 0 4:=by
 unfold elems
 rw[show List.range 256=(List.range 64).map (64*0+·)++((List.range 64).map (64*1+·)++((List.range 64).map (64*2+·)++(List.range 64).map (64*3+·))) by decide +kernel]
 simp only[List.filter_append,Qs,zu,List.append_nil]
theorem abE{s:au}{x:Nat}(h:x∈elems s):x<256:=List.mem_range.1 (List.mem_filter.1 h).1
theorem Pz(s:au):leastOf s=match elems s with | []=>-1 | b::_=>(b:Int):=by
 unfold leastOf elems
 generalize List.range 256=l
 induction l with
 | nil=>rfl
 | cons a l ih =>
  rw[List.find?_cons,List.filter_cons]
  cases mem s a
  ·simpa using ih
  ·rfl
end
section
def qx(c:Nat):Nat→Nat
 | 0=>0
 | n+1=>c+256*qx c n
def kL(f:Nat→Nat):Nat→Nat→Nat
 | 0,_=>0
 | n+1,x=>f (x % 256)+256*kL f n (x / 256)
theorem abG(x y:Nat):x &&& y=(x % 256 &&& y % 256)+256*(x / 256 &&& y / 256):=by
 have h1:=Nat.and_mod_two_pow (a:=x) (b:=y) (n:=8)
 have h2:=Nat.and_div_two_pow (a:=x) (b:=y) (n:=8)
 have e:(2:Nat) ^ 8=256:=rfl
 rw[e] at h1 h2
 rw[←h1,←h2]
 omega
theorem Dc(c:Nat)(hc:c<256)(n x:Nat):x &&& qx c (n+1)=(x % 256 &&& c)+256*(x / 256 &&& qx c n):=by
 rw[abG]
 simp only[qx]
 rw[show(c+256*qx c n) % 256=c by omega,show(c+256*qx c n) / 256=qx c n by omega]
def f1(b:Nat):Nat:=(b / 2 &&& 85)+(b &&& 85)
def f2(b:Nat):Nat:=(b / 4 &&& 51)+(b &&& 51)
def pop8(b:Nat):Nat:=(f2 (f1 b) / 16+f2 (f1 b)) % 16
theorem k1:∀ a,a<256→∀ e,e<2→(a / 2+128*e) &&& 85=a / 2 &&& 85:=by decide +kernel
theorem k2:∀ a,a<256→∀ e,e<4→(a / 4+64*e) &&& 51=a / 4 &&& 51:=by decide +kernel
theorem b1:∀ b,b<256→f1 b<256:=by decide +kernel
theorem b2:∀ b,b<256→f2 (f1 b)≤68∧f2 (f1 b) % 16≤4:=by decide +kernel
theorem b3:∀ b,b<256→pop8 b≤8∧pop8 b=((List.range 8).filter fun j=>b.testBit j).length:=by decide +kernel
theorem step1(n:Nat):∀ x,((x / 2) &&& qx 85 n)+(x &&& qx 85 n)=kL f1 n x:=by
 induction n with
 | zero=>intro x;simp[qx,kL]
 | succ n ih =>
  intro x
  rw[Dc 85 (by decide),Dc 85 (by decide)]
  have e1:x / 2 % 256=x % 256 / 2+128*(x / 256 % 2):=by omega
  have e2:x / 2 / 256=x / 256 / 2:=by omega
  rw[e1,e2,k1 _ (Nat.mod_lt _ (by decide)) _ (Nat.mod_lt _ (by decide))]
  have:=ih (x / 256)
  simp only[kL,f1]
  omega
theorem step2(n:Nat):∀ x,((x / 4) &&& qx 51 n)+(x &&& qx 51 n)=kL f2 n x:=by
 induction n with
 | zero=>intro x;simp[qx,kL]
 | succ n ih =>
  intro x
  rw[Dc 51 (by decide),Dc 51 (by decide)]
  have e1:x / 4 % 256=x % 256 / 4+64*(x / 256 % 4):=by omega
  have e2:x / 4 / 256=x / 256 / 4:=by omega
  rw[e1,e2,k2 _ (Nat.mod_lt _ (by decide)) _ (Nat.mod_lt _ (by decide))]
  have:=ih (x / 256)
  simp only[kL,f2]
  omega
theorem YG(f g:Nat→Nat)(hg:∀ b,b<256→g b<256)(n:Nat):∀ x,kL f n (kL g n x)=kL (fun b=>f (g b)) n x:=by
 induction n with
 | zero=>intro x;rfl
 | succ n ih =>
  intro x
  have h:=hg (x % 256) (Nat.mod_lt _ (by decide))
  simp only[kL]
  rw[show(g (x % 256)+256*kL g n (x / 256)) % 256=g (x % 256) by omega,show(g (x % 256)+256*kL g n (x / 256)) / 256=kL g n (x / 256) by omega,ih]
theorem ajC(a:Nat):a &&& 15=a % 16:=Nat.and_two_pow_sub_one_eq_mod a 4
theorem abH(h:Nat→Nat)(hh:∀ b,b<256→h b≤68∧h b % 16≤4)(n:Nat)(x:Nat):kL h n x % 16≤4:=by
 cases n with
 | zero=>simp[kL]
 | succ n=>have:=hh (x % 256) (Nat.mod_lt _ (by decide));simp only[kL];omega
theorem step3(h:Nat→Nat)(hh:∀ b,b<256→h b≤68∧h b % 16≤4)(n:Nat):∀ x,(kL h n x / 16+kL h n x) &&& qx 15 n=kL (fun b=>(h b / 16+h b) % 16) n x:=by
 induction n with
 | zero=>intro x;simp[qx,kL]
 | succ n ih =>
  intro x
  have h0:=hh (x % 256) (Nat.mod_lt _ (by decide))
  have hl:=abH h hh n (x / 256)
  have hi:=ih (x / 256)
  rw[Dc 15 (by decide)]
  simp only[kL]
  generalize h (x % 256)=a at *
  generalize kL h n (x / 256)=r at *
  rw[ajC]
  rw[show((a+256*r) / 16+(a+256*r)) / 256=r / 16+r by omega,hi]
  omega
theorem lG(n:Nat):∀ x,((List.range (8*n)).filter fun j=>x.testBit j).length=(match n with | 0=>0 | m+1=>((List.range 8).filter fun j=>(x % 256).testBit j).length+((List.range (8*m)).filter fun j=>(x / 256).testBit j).length):=by
 intro x
 cases n with
 | zero=>rfl
 | succ m =>
  simp only
  rw[show 8*(m+1)=8+8*m by omega,List.range_add,List.filter_append,List.length_append,List.filter_map,List.length_map]
  congr 1
  ·refine congrArg List.length (List.filter_congr fun j hj=>?_)
   have:=List.mem_range.1 hj
   rw[show(256:Nat)=2 ^ 8 from rfl,Nat.testBit_mod_two_pow];simp[this]
  ·refine congrArg List.length (List.filter_congr fun j hj=>?_)
   simp only[Function.comp]
   rw[show(256:Nat)=2 ^ 8 from rfl,Nat.testBit_div_two_pow,Nat.add_comm]
theorem YH(x:Nat):(jy x).length=pop8 (x % 256)+(pop8 (x / 256 % 256)+(pop8 (x / 256 / 256 % 256)+(pop8 (x / 256 / 256 / 256 % 256)+(pop8 (x / 256 / 256 / 256 / 256 % 256)+(pop8 (x / 256 / 256 / 256 / 256 / 256 % 256)+(pop8 (x / 256 / 256 / 256 / 256 / 256 / 256 % 256)+pop8 (x / 256 / 256 / 256 / 256 / 256 / 256 / 256 % 256))))))):=by
 have hb:=fun y=>(b3 (y % 256) (Nat.mod_lt y (by decide))).2
 unfold jy
 rw[show List.range 64=List.range (8*8) from rfl,lG 8];simp only
 rw[lG 7];simp only
 rw[lG 6];simp only
 rw[lG 5];simp only
 rw[lG 4];simp only
 rw[lG 3];simp only
 rw[lG 2];simp only
 rw[lG 1 (x / 256 / 256 / 256 / 256 / 256 / 256 / 256)];simp only
 simp only[hb]
 simp
def jl(x:Nat):Nat:=(x / 2 &&& 6148914691236517205)+(x &&& 6148914691236517205)
def mG(x:Nat):Nat:=(x / 4 &&& 3689348814741910323)+(x &&& 3689348814741910323)
def xg(x:Nat):Nat:=(x / 16+x) &&& 1085102592571150095
theorem afv(x:Nat):xg (mG (jl x))=kL pop8 8 x:=by
 unfold jl mG xg
 rw[show 6148914691236517205=qx 85 8 from rfl,show 3689348814741910323=qx 51 8 from rfl,show 1085102592571150095=qx 15 8 from rfl,step1,step2,YG f2 f1 b1,step3 _ b2]
 rfl
theorem ajD(a b c T2 T3 x y:Nat)(ha:a≤8)(hb:b≤8)(hc:c≤8)(hx:x=a+256*(b+256*T2))(hy:y=b+256*(c+256*T3)):(x+y) / 65536=T2+T3:=by omega
theorem ajE(l0 l1 l2 l3 t0 t1 t2 t3:Nat)(h0:l0≤134744072)(h1:l1≤134744072)(h2:l2≤134744072)(h3:l3≤134744072) :
  ((l0+4294967296*t0)+(l1+4294967296*t1)+((l2+4294967296*t2)+(l3+4294967296*t3))) / 4294967296=t0+t1+(t2+t3):=by omega
theorem low4(a b c d T:Nat)(ha:a≤8)(hb:b≤8)(hc:c≤8)(hd:d≤8):∃ l,a+256*(b+256*(c+256*(d+256*T)))=l+4294967296*T∧l≤134744072 :=
 ⟨a+256*b+65536*c+16777216*d,by omega,by omega⟩
theorem afw(C U:Nat)(h:C≤64):(C+256*U) % 128=C:=by omega
theorem alE(c0 c1 c2 c3 c4 c5 c6 c7 c:Nat)(g0:c0≤8)(g1:c1≤8)(g2:c2≤8)(g3:c3≤8)(g4:c4≤8)(g5:c5≤8)(g6:c6≤8)(g7:c7≤8)
  (hc:c=c0+256*(c1+256*(c2+256*(c3+256*(c4+256*(c5+256*(c6+256*(c7+256*0)))))))) :
  c≤578721382704613384∧((c+c / 256)+(c+c / 256) / 65536+((c+c / 256)+(c+c / 256) / 65536) / 4294967296) % 128=c0+(c1+(c2+(c3+(c4+(c5+(c6+c7)))))):=by
 have z:(0:Nat)=0+256*(0+256*(0+256*(0+256*0))):=rfl
 obtain⟨t7,h7⟩:∃ t,t=c7+256*0:=⟨_,rfl⟩
 rw[←h7] at hc
 obtain⟨t6,h6⟩:∃ t,t=c6+256*t7:=⟨_,rfl⟩
 rw[←h6] at hc
 obtain⟨t5,h5⟩:∃ t,t=c5+256*t6:=⟨_,rfl⟩
 rw[←h5] at hc
 obtain⟨t4,h4⟩:∃ t,t=c4+256*t5:=⟨_,rfl⟩
 rw[←h4] at hc
 obtain⟨t3,h3⟩:∃ t,t=c3+256*t4:=⟨_,rfl⟩
 rw[←h3] at hc
 obtain⟨t2,h2⟩:∃ t,t=c2+256*t3:=⟨_,rfl⟩
 rw[←h2] at hc
 obtain⟨t1,h1⟩:∃ t,t=c1+256*t2:=⟨_,rfl⟩
 rw[←h1] at hc
 have k7:t7≤8:=by omega
 have k6:t6≤2056:=by omega
 have k5:t5≤526344:=by omega
 have k4:t4≤134744072:=by omega
 have k3:t3≤34494482440:=by omega
 have k2:t2≤8830587504648:=by omega
 have k1:t1≤2260630401189896:=by omega
 have k0:c≤578721382704613384:=by omega
 have e1:c / 256=t1:=by omega
 have e2:(c+t1) / 65536=t2+t3:=ajD c0 c1 c2 t2 t3 c t1 g0 g1 g2 (by rw[hc,h1]) (by rw[h1,h2])
 obtain⟨l0,a0,b0⟩:=low4 c0 c1 c2 c3 t4 g0 g1 g2 g3
 obtain⟨l1,a1,b1⟩:=low4 c1 c2 c3 c4 t5 g1 g2 g3 g4
 obtain⟨l2,a2,b2⟩:=low4 c2 c3 c4 c5 t6 g2 g3 g4 g5
 obtain⟨l3,a3,b3⟩:=low4 c3 c4 c5 c6 t7 g3 g4 g5 g6
 rw[←h3,←h2,←h1,←hc] at a0
 rw[←h4,←h3,←h2,←h1] at a1
 rw[←h5,←h4,←h3,←h2] at a2
 rw[←h6,←h5,←h4,←h3] at a3
 have e3:(c+t1+(t2+t3)) / 4294967296=t4+t5+(t6+t7):=by
  rw[a0,a1,a2,a3];exact ajE l0 l1 l2 l3 t4 t5 t6 t7 b0 b1 b2 b3
 refine⟨k0,?_⟩
 rw[e1,e2,e3]
 clear a0 a1 a2 a3 b0 b1 b2 b3 e1 e2 e3 k0 k1 k2 k3 k4 k5 k6 k7 z
 have:c+t1+(t2+t3)+(t4+t5+(t6+t7))=(c0+(c1+(c2+(c3+(c4+(c5+(c6+c7)))))))+256*(t1+t2+t3+t4+t5+t6+t7):=by omega
 rw[this]
 exact afw _ _ (by omega)
theorem abI(x:Nat):xg (mG (jl x))≤578721382704613384∧((xg (mG (jl x))+xg (mG (jl x)) / 256)+(xg (mG (jl x))+xg (mG (jl x)) / 256) / 65536+((xg (mG (jl x))+xg (mG (jl x)) / 256)+(xg (mG (jl x))+xg (mG (jl x)) / 256) / 65536) / 4294967296) % 128=(jy x).length:=by
 rw[YH]
 have hb:=fun y=>(b3 (y % 256) (Nat.mod_lt y (by decide))).1
 refine alE _ _ _ _ _ _ _ _ _ (hb _) (hb _) (hb _) (hb _) (hb _) (hb _) (hb _) (hb _) ?_
 rw[afv]
 simp only[kL]
end
end Go.Proofs.YtengfapcaaacaaaGreatDoor
