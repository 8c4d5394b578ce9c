/- The texts of E3, in few letters (mini.py). -/
import Derived.Test.YtengfapcaaacaaaGreatDoorF2
import Derived.Laws.AppendOwnNone
import Derived.Lib.TrailingZeros
set_option linter.unusedVariables false
set_option linter.unusedSimpArgs false
namespace Go.Proofs.YtengfapcaaacaaaGreatDoor
section
def aC(R:Nat→Nat→Bool):Nat→List Nat
 | 0=>[]
 | n+1=>if (aC R n).any (R n) then aC R n else aC R n++[n]
def posR(R:Nat→Nat→Bool)(b:Nat):List Nat→Option Nat
 | []=>none
 | c::r=>if R b c then some 0 else (posR R b r).map (·+1)
def aT(R:Nat→Nat→Bool)(b:Nat):Nat:=(posR R b (aC R 256)).getD 0
def iq(R:Nat→Nat→Bool):Nat:=(aC R 256).length
def aH{κ:Type}[DecidableEq κ](k:Nat→κ)(b c:Nat):Bool:=decide (k b=k c)
theorem AP(R:Nat→Nat→Bool):aC R 0=[]:=rfl
theorem iY(R:Nat→Nat→Bool)(n:Nat):aC R (n+1)=if (aC R n).any (R n) then aC R n else aC R n++[n]:=rfl
theorem jQ(R:Nat→Nat→Bool):∀ n,∀ c∈aC R n,c<n
 | 0,c,h=>by simp[aC] at h
 | n+1,c,h=>by
  unfold aC at h
  split at h
  ·exact Nat.lt_succ_of_lt (jQ R n c h)
  ·rcases List.mem_append.1 h with h | h
   ·exact Nat.lt_succ_of_lt (jQ R n c h)
   ·simp at h;omega
theorem nT(R:Nat→Nat→Bool):∀ (n i j:Nat) (_:i<j) (hj:j<(aC R n).length),(aC R n)[i]'(by omega)<(aC R n)[j]
 | 0,i,j,_,hj=>by simp[aC] at hj
 | n+1,i,j,hij,hj=>by
  by_cases h:(aC R n).any (R n)=true
  ·have e:aC R (n+1)=aC R n:=by rw[iY,if_pos h]
   simp only[e] at hj ⊢
   exact nT R n i j hij hj
  ·have e:aC R (n+1)=aC R n++[n]:=by rw[iY,if_neg h]
   simp only[e] at hj ⊢
   rw[List.length_append,List.length_singleton] at hj
   by_cases h2:j<(aC R n).length
   ·rw[List.getElem_append_left h2,List.getElem_append_left (by omega)]
    exact nT R n i j hij h2
   ·obtain rfl:j=(aC R n).length:=by omega
    rw[List.getElem_append_right (Nat.le_refl _),List.getElem_append_left (by omega)]
    simp
    exact jQ R n _ (List.getElem_mem _)
theorem acF(R:Nat→Nat→Bool)(n:Nat){i j:Nat}(hi:i<(aC R n).length)(hj:j<(aC R n).length)(h:(aC R n)[i]=(aC R n)[j]):i=j:=by
 rcases Nat.lt_trichotomy i j with h1 | h1 | h1
 ·have:=nT R n i j h1 hj;omega
 ·exact h1
 ·have:=nT R n j i h1 hi;omega
theorem gU(R:Nat→Nat→Bool):∀ n,(aC R n).length≤n
 | 0=>by simp[aC]
 | n+1=>by
  have:=gU R n
  unfold aC
  split
  ·omega
  ·simp;omega
theorem BI(R:Nat→Nat→Bool)(n:Nat):∀ m,∃ l,aC R (n+m)=aC R n++l
 | 0=>⟨[],by simp⟩
 | m+1=>by
  obtain⟨l,hl⟩:=BI R n m
  by_cases h:(aC R (n+m)).any (R (n+m))=true
  ·exact⟨l,by rw[←Nat.add_assoc,iY,if_pos h,hl]⟩
  ·exact⟨l++[n+m],by rw[←Nat.add_assoc,iY,if_neg h,hl,List.append_assoc]⟩
theorem nI{R S:Nat→Nat→Bool}:∀ n,(∀ b c,b<n→c<n→R b c=S b c)→aC R n=aC S n
 | 0,_=>rfl
 | n+1,h=>by
  have ih:=nI (R:=R) (S:=S) n (fun b c hb hc=>h b c (by omega) (by omega))
  have e:(aC R n).any (R n)=(aC S n).any (S n):=by
   rw[←ih,Bool.eq_iff_iff]
   simp only[List.any_eq_true]
   constructor
   ·rintro⟨c,hc,hR⟩;exact⟨c,hc,by rw[←h n c (by omega) (by have:=jQ R n c hc;omega)];exact hR⟩
   ·rintro⟨c,hc,hR⟩;exact⟨c,hc,by rw[h n c (by omega) (by have:=jQ R n c hc;omega)];exact hR⟩
  rw[iY,iY,e,ih]
theorem BJ(R:Nat→Nat→Bool)(b:Nat):∀ l l':List Nat,posR R b (l++l')=(posR R b l).or ((posR R b l').map (·+l.length))
 | [],l'=>by simp[posR]
 | c::r,l'=>by
  simp only[List.cons_append,posR,BJ R b r l']
  split
  ·simp
  ·cases posR R b r <;> cases posR R b l' <;> simp[Nat.add_assoc]
theorem uM{R:Nat→Nat→Bool}{b:Nat}:∀ {l:List Nat},l.any (R b)=false→posR R b l=none
 | [],_=>rfl
 | c::r,h=>by
  simp only[List.any_cons,Bool.or_eq_false_iff] at h
  simp[posR,h.1,uM h.2]
theorem yh{R:Nat→Nat→Bool}{b:Nat}:∀ {l:List Nat},l.any (R b)=true→∃ i,posR R b l=some i∧i<l.length∧∃ c,l[i]?=some c∧R b c=true
 | [],h=>by simp at h
 | c::r,h=>by
  simp only[posR]
  by_cases hc:R b c=true
  ·exact⟨0,by simp[hc],by simp,c,by simp,hc⟩
  ·simp only[List.any_cons,hc,Bool.false_or] at h
   obtain⟨i,h1,h2,d,h3,h4⟩:=yh (R:=R) (b:=b) (l:=r) (by simpa using h)
   exact⟨i+1,by simp[hc,h1],by simpa using h2,d,by simpa using h3,h4⟩
theorem o8{R:Nat→Nat→Bool}(hr:∀ b,R b b=true){n b:Nat}(hb:b<n):(aC R n).any (R b)=true:=by
 obtain⟨m,rfl⟩:∃ m,n=b+1+m:=⟨n - (b+1),by omega⟩
 obtain⟨l,hl⟩:=BI R (b+1) m
 rw[hl,List.any_append]
 have:(aC R (b+1)).any (R b)=true:=by
  rw[iY]
  split
  ·assumption
  ·simp[hr]
 simp[this]
theorem Oj{R:Nat→Nat→Bool}(hr:∀ b,R b b=true){n b:Nat}(hb:b<n)(hn:n≤256):posR R b (aC R n)=some (aT R b):=by
 obtain⟨m,hm⟩:∃ m,n+m=256:=⟨256 - n,by omega⟩
 obtain⟨l,hl⟩:=BI R n m
 obtain⟨i,hi,_⟩:=yh (o8 hr hb)
 have:posR R b (aC R 256)=some i:=by rw[←hm,hl,BJ,hi];rfl
 rw[hi,aT,this];rfl
theorem DF{R:Nat→Nat→Bool}(hr:∀ b,R b b=true){n:Nat}(hn:n<256)(h:(aC R n).any (R n)=false):aC R (n+1)=aC R n++[n]∧aT R n=(aC R n).length:=by
 have e:aC R (n+1)=aC R n++[n]:=by rw[iY,h];rfl
 refine⟨e,?_⟩
 have h1:=Oj hr (Nat.lt_succ_self n) hn
 rw[e,BJ,uM h] at h1
 simpa [posR,hr] using h1.symm
theorem DI{R:Nat→Nat→Bool}(hr:∀ b,R b b=true){n:Nat}(hn:n<256)(h:(aC R n).any (R n)=true):aC R (n+1)=aC R n∧posR R n (aC R n)=some (aT R n):=by
 have e:aC R (n+1)=aC R n:=by rw[iY,h];rfl
 refine⟨e,?_⟩
 rw[←e];exact Oj hr (Nat.lt_succ_self n) hn
theorem Cm{R:Nat→Nat→Bool}(hr:∀ b,R b b=true){b:Nat}(hb:b<256):aT R b<iq R:=by
 obtain⟨i,hi,hlt,_⟩:=yh (o8 hr hb)
 unfold aT iq;rw[hi];exact hlt
theorem CB(R:Nat→Nat→Bool):iq R≤256:=gU R 256
theorem J6{R:Nat→Nat→Bool}(hr:∀ b,R b b=true){b:Nat}(hb:b<256):aT R b<256:=Nat.lt_of_lt_of_le (Cm hr hb) (CB R)
structure su(R:Nat→Nat→Bool):Prop where
 refl:∀ b,R b b=true
 symm:∀ {b c},R b c=true→R c b=true
 trans:∀ {b c d},R b c=true→R c d=true→R b d=true
theorem J7{R:Nat→Nat→Bool}(E:su R){b c:Nat}(h:R b c=true):∀ l,posR R b l=posR R c l
 | []=>rfl
 | d::r=>by
  simp only[posR,J7 E h r]
  have:R b d=R c d:=by
   rw[Bool.eq_iff_iff];exact⟨fun k=>E.trans (E.symm h) k,fun k=>E.trans h k⟩
  rw[this]
theorem CG{R:Nat→Nat→Bool}(E:su R){b c:Nat}(hb:b<256)(hc:c<256):(aT R b=aT R c)↔R b c=true:=by
 constructor
 ·intro h
  obtain⟨i,hi,_,d,hd,hbd⟩:=yh (o8 E.refl hb)
  obtain⟨j,hj,_,e,he,hce⟩:=yh (o8 E.refl hc)
  have:i=j:=by unfold aT at h;rw[hi,hj] at h;exact h
  subst this
  rw[hd] at he
  obtain rfl:=Option.some.inj he
  exact E.trans hbd (E.symm hce)
 ·intro h;unfold aT;rw[J7 E h]
theorem DJ{R S:Nat→Nat→Bool}(h:∀ b c,b<256→c<256→R b c=S b c){b:Nat}(hb:b<256):aT R b=aT S b:=by
 unfold aT
 rw[nI (R:=R) (S:=S) 256 h]
 have:∀ l:List Nat,(∀ c∈l,c<256)→posR R b l=posR S b l:=by
  intro l
  induction l with
  | nil=>intro _;rfl
  | cons c r ih=>intro hl;simp only[posR,h b c hb (hl c (by simp)),ih (fun d hd=>hl d (by simp[hd]))]
 rw[this _ (jQ S 256)]
theorem DK{R S:Nat→Nat→Bool}(h:∀ b c,b<256→c<256→R b c=S b c):iq R=iq S:=by
 unfold iq;rw[nI 256 h]
theorem gY{κ:Type}[DecidableEq κ](k:Nat→κ):su (aH k) :=
 ⟨fun b=>by simp[aH],fun h=>by simp only[aH,decide_eq_true_eq] at *;exact h.symm,fun h1 h2=>by simp only[aH,decide_eq_true_eq] at *;exact h1.trans h2⟩
def oh{κ:Type}(k:Nat→κ)(l:List Nat):List (κ×Value):=(l.zipIdx).map fun p=>(k p.1,.int .u8 (p.2:Nat))
theorem yY{κ:Type}(k:Nat→κ)(l:List Nat)(n:Nat):oh k (l++[n])=oh k l++[(k n,.int .u8 (l.length:Nat))]:=by
 unfold oh;rw[List.zipIdx_append];simp
theorem kT{κ:Type}(k:Nat→κ)(l:List Nat):(oh k l).length=l.length:=by simp[oh]
theorem yZ{κ:Type}[DecidableEq κ](k:Nat→κ)(b:Nat)(l:List Nat):look (k b) (oh k l)=(posR (aH k) b l).map fun i=>Value.int .u8 (i:Nat):=by
 have gen:∀ (l:List Nat) (s:Nat),look (k b) ((l.zipIdx s).map fun p=>(k p.1,Value.int .u8 (p.2:Nat)))=(posR (aH k) b l).map fun i=>Value.int .u8 ((i+s:Nat):Int):=by
  intro l
  induction l with
  | nil=>intro s;rfl
  | cons c r ih =>
   intro s
   simp only[List.zipIdx_cons,List.map_cons,look,posR,aH,decide_eq_true_eq]
   by_cases h:k b=k c
   ·simp[h]
   ·simp only[h,if_false]
    rw[ih (s+1)]
    cases posR (aH k) b r <;> simp <;> omega
 exact gen l 0
def aG(f:Nat→Nat):Array Value:=(((List.range 256).map fun i=>((f i:Nat):Int)).map (Value.int .u8)).toArray
theorem aU(f:Nat→Nat):(aG f).size=256:=by simp[aG]
theorem iF(f g:Nat→Nat):(aG f).size=(aG g).size:=by rw[aU,aU]
theorem dG(f:Nat→Nat)(i:Nat)(h:i<256):(aG f)[i]?=some (.int .u8 (f i:Nat)):=by simp[aG,h]
theorem bY{f g:Nat→Nat}(h:∀ i,i<256→f i=g i):aG f=aG g:=by
 have e:((List.range 256).map fun i=>((f i:Nat):Int))=((List.range 256).map fun i=>((g i:Nat):Int)):=List.map_congr_left fun i hi=>by rw[h i (by simpa using hi)]
 unfold aG;rw[e]
theorem o9(f:Nat→Nat)(k v:Nat):(aG f).setIfInBounds k (.int .u8 (v:Nat))=aG (fun i=>if i=k then v else f i):=by
 apply Array.ext_getElem?
 intro i
 rw[Array.getElem?_setIfInBounds]
 by_cases hi:i<256
 ·rw[dG _ i hi,dG _ i hi,aU]
  by_cases hk:k=i
  ·subst hk;simp[hi]
  ·have:¬ i=k:=fun e=>hk e.symm
   simp[hk,this]
 ·have h1:(aG fun i=>if i=k then v else f i)[i]?=none:=by rw[Array.getElem?_eq_none];rw[aU];omega
  have h2:(aG f)[i]?=none:=by rw[Array.getElem?_eq_none];rw[aU];omega
  rw[h1,h2,aU]
  by_cases hk:k=i
  ·simp[hk,hi]
  ·simp[hk]
theorem eu(f:Nat→Nat):(aG f).all (·.oneCell')=true:=by
 rw[Array.all_eq_true_iff_forall_mem]
 intro v hv
 simp only[aG,List.mem_toArray,List.mem_map] at hv
 obtain⟨x,_,rfl⟩:=hv
 rfl
theorem lY{R:Nat→Nat→Bool}{n v:Nat}(h:aT R n=v):∀ i,i<256→(if i=n then v else if i<n then aT R i else 0)=if i<n+1 then aT R i else 0:=by
 intro i _
 by_cases h1:i=n
 ·subst h1;simp[h]
 ·by_cases h2:i<n
  ·simp[h1,h2,show i<n+1 by omega]
  ·simp[h1,h2,show ¬ i<n+1 by omega]
theorem jK(R:Nat→Nat→Bool):iq R=(aC R 256).length:=rfl
theorem zf{κ:Type}(k:Nat→κ)(R:Nat→Nat→Bool):oh k (aC R 0)=[]:=rfl
def jR(f g:Nat→Nat):Bool:=(List.range 256).all fun b=>f b==g b
theorem BK(f g:Nat→Nat):jR f g=true↔∀ b,b<256→f b=g b:=by
 unfold jR;simp
theorem EW{P:Program}{t e:TypeId}(hu:P.underlying t=some (.array 256 e))(he:P.underlying e=some (.int .u8))(hi:(P.info? e).map (fun i=>i.size)=some 1)(f g:Nat→Nat)(w:World) :
  (Op.equalIn 10000 t (.agg (aG f)) (.agg (aG g))).run P w=.ok (jR f g) w:=by
 cases hq:P.info? e with
 | none=>simp[hq] at hi
 | some i =>
  have hs:i.size=1:=by simpa [hq] using hi
  have hc:P.cellsOf e=1:=by simp[Program.cellsOf,hq,hs]
  have:=mO (P:=P) 9998 hu he hq hc ((List.range 256).map fun i=>((f i:Nat):Int)) ((List.range 256).map fun i=>((g i:Nat):Int)) (by simp) (by simp) w
  refine this.trans ?_
  congr 1
  rw[Bool.eq_iff_iff,BK]
  simp only[decide_eq_true_eq]
  constructor
  ·intro h b hb
   have:=List.map_inj_left.1 h b (by simpa using hb)
   omega
  ·intro h
   exact List.map_congr_left fun b hb=>by rw[h b (by simpa using hb)]
theorem lJ{R:Nat→Nat→Bool}(E:su R):∀ (n c d:Nat),c∈aC R n→d<c→R c d=false
 | 0,c,d,h,_=>by simp[aC] at h
 | n+1,c,d,h,hd=>by
  rw[iY] at h
  split at h
  ·exact lJ E n c d h hd
  ·rename_i hn
   rcases List.mem_append.1 h with h | h
   ·exact lJ E n c d h hd
   ·obtain rfl:c=n:=by simpa using h
    cases hR:R c d with
    | false=>rfl
    | true =>
     refine absurd ?_ hn
     obtain⟨r,hr,hdr⟩:=List.any_eq_true.1 (o8 E.refl hd)
     exact List.any_eq_true.2 ⟨r,hr,E.trans hR hdr⟩
def cls(R:Nat→Nat→Bool)(n c:Nat):aF:=oO fun d=>decide (d<n)&&R c d
theorem jo(R:Nat→Nat→Bool)(n c d:Nat):mem (cls R n c) d=(decide (d<256)&&(decide (d<n)&&R c d)):=uI _ _
theorem Ol{R:Nat→Nat→Bool}(E:su R){n c:Nat}(hn:n≤256)(hc:c∈aC R n):leastOf (cls R n c)=c:=by
 have hlt:=jQ R n c hc
 refine Ep _ c (by omega) ?_ fun d hd=>?_
 ·rw[jo];simp[hlt,E.refl];omega
 ·rw[jo,lJ E n c d hc hd];simp
theorem DL{R:Nat→Nat→Bool}{b:Nat}:∀ {l:List Nat} {p:Nat} (hp:p<l.length),R b l[p]=true→(∀ i (h:i<p),R b (l[i]'(by omega))=false)→posR R b l=some p
 | [],p,hp,_,_=>by simp at hp
 | c::r,0,_,h,_=>by simp at h;simp[posR,h]
 | c::r,p+1,hp,h,hno=>by
  have h0:=hno 0 (by omega)
  simp only[List.getElem_cons_zero] at h0
  have ih:=DL (R:=R) (b:=b) (l:=r) (p:=p) (by simpa using hp) (by simpa using h) (fun i hi=>by have:=hno (i+1) (by omega);simpa using this)
  simp[posR,h0,ih]
theorem agF{R:Nat→Nat→Bool}(E:su R){n p:Nat}(hn:n<256)(hp:p<(aC R n).length)(h:R (aC R n)[p] n=true) :
  aC R (n+1)=aC R n∧((aC R n).map (cls R n)).set p (lI (cls R n (aC R n)[p]) n)=(aC R n).map (cls R (n+1)):=by
 have hany:(aC R n).any (R n)=true:=List.any_eq_true.2 ⟨_,List.getElem_mem hp,E.symm h⟩
 refine⟨by rw[iY,if_pos hany],?_⟩
 apply List.ext_getElem
 ·simp
 ·intro i h1 h2
  simp only[List.length_set,List.length_map] at h1
  rw[List.getElem_set]
  split
  ·rename_i hpi
   subst hpi
   simp only[List.getElem_map]
   refine mM fun d hd=>?_
   rw[AL _ _ _ hn,jo,jo]
   by_cases h3:n=d
   ·subst h3;simp[hd,h]
   ·by_cases h4:d<n
    ·simp[h3,h4,show d<n+1 by omega]
    ·simp[h3,h4,show ¬ d<n+1 by omega]
  ·rename_i hpi
   simp only[List.getElem_map]
   refine mM fun d hd=>?_
   rw[jo,jo]
   have hne:R (aC R n)[i] n=false:=by
    cases hR:R (aC R n)[i] n with
    | false=>rfl
    | true =>
     exfalso
     have h5:R (aC R n)[i] (aC R n)[p]=true:=E.trans hR (E.symm h)
     have hl1:=lJ E n (aC R n)[i] (aC R n)[p] (List.getElem_mem _)
     have hl2:=lJ E n (aC R n)[p] (aC R n)[i] (List.getElem_mem _)
     rcases Nat.lt_trichotomy (aC R n)[i] (aC R n)[p] with hlt | heq | hgt
     ·have:=hl2 hlt;rw[E.symm h5] at this;cases this
     ·exact hpi (acF R n hp h1 heq.symm)
     ·have:=hl1 hgt;rw[h5] at this;cases this
   by_cases h3:d=n
   ·subst h3;simp[hne]
   ·have:decide (d<n+1)=decide (d<n):=by rw[decide_eq_decide];omega
    rw[this]
theorem agG{R:Nat→Nat→Bool}(E:su R){n:Nat}(hn:n<256)(h:∀ i (hi:i<(aC R n).length),R (aC R n)[i] n=false) :
  aC R (n+1)=aC R n++[n]∧(aC R n).map (cls R n)++[oO fun b=>decide (n≤b)&&decide (b≤n)]=(aC R (n+1)).map (cls R (n+1)):=by
 have hany:(aC R n).any (R n)=false:=by
  rw[List.any_eq_false]
  intro c hc
  obtain⟨i,hi,rfl⟩:=List.mem_iff_getElem.1 hc
  intro hR
  have:=h i hi
  rw[E.symm hR] at this;cases this
 have e:aC R (n+1)=aC R n++[n]:=by rw[iY,hany];rfl
 refine⟨e,?_⟩
 rw[e,List.map_append]
 congr 1
 ·refine List.map_congr_left fun c hc=>?_
  obtain⟨i,hi,rfl⟩:=List.mem_iff_getElem.1 hc
  refine mM fun d hd=>?_
  rw[jo,jo]
  by_cases h3:d=n
  ·subst h3;simp[h i hi]
  ·have:decide (d<n+1)=decide (d<n):=by rw[decide_eq_decide];omega
   rw[this]
 ·simp only[List.map_cons,List.map_nil]
  congr 1
  refine mM fun d hd=>?_
  rw[jo,uI]
  by_cases h3:d=n
  ·subst h3;simp[E.refl]
  ·by_cases h4:d<n
   ·have hm:n∈aC R (n+1):=by rw[e];simp
    rw[lJ E (n+1) n d hm h4]
    simp[show ¬ n≤d by omega]
   ·simp[show ¬ d<n+1 by omega,show ¬ d≤n by omega]
def uz(L:List aF)(c:Nat):Nat:=(List.range L.length).foldl (fun acc i=>if mem (L.getD i 0) c then i else acc) 0
theorem Om(L:List aF)(s:aF)(c:Nat):uz (L++[s]) c=if mem s c then L.length else uz L c:=by
 unfold uz
 rw[List.length_append,List.length_singleton,List.range_succ,List.foldl_append]
 simp only[List.foldl_cons,List.foldl_nil]
 have e1:(L++[s]).getD L.length 0=s:=by simp[List.getD]
 rw[e1]
 have:∀ (l:List Nat) (z:Nat),(∀ i∈l,i<L.length)→l.foldl (fun acc i=>if mem ((L++[s]).getD i 0) c then i else acc) z=l.foldl (fun acc i=>if mem (L.getD i 0) c then i else acc) z:=by
  intro l
  induction l with
  | nil=>intro z _;rfl
  | cons i l ih =>
   intro z h
   have e2:(L++[s]).getD i 0=L.getD i 0:=by simp[List.getD,List.getElem?_append_left (h i (by simp))]
   simp only[List.foldl_cons,e2]
   exact ih _ (fun j hj=>h j (by simp[hj]))
 rw[this _ _ (fun i hi=>by simpa using hi)]
attribute [irreducible] aC
theorem I5{R:Nat→Nat→Bool}(E:su R){c:Nat}(hc:c<256):∀ m,m≤(aC R 256).length →
  uz (((aC R 256).take m).map (cls R 256)) c=if aT R c<m then aT R c else 0
 | 0,_=>by simp[uz]
 | m+1,hm=>by
  rw[List.take_succ_eq_append_getElem hm,List.map_append,List.map_cons,List.map_nil,Om,I5 E hc m (by omega),List.length_map,List.length_take,Nat.min_eq_left (by omega)]
  have hmem:mem (cls R 256 (aC R 256)[m]) c=R (aC R 256)[m] c:=by rw[jo];simp[hc]
  have hr:=jQ R 256 _ (List.getElem_mem hm)
  have hnum:aT R (aC R 256)[m]=m:=by
   have:=DL (R:=R) (b:=(aC R 256)[m]) (l:=aC R 256) (p:=m) hm (E.refl _) (fun i hi=>by
    have h1:=lJ E 256 (aC R 256)[m] (aC R 256)[i] (List.getElem_mem _)
    have h2:=nT R 256 i m hi hm
    exact h1 h2)
   unfold aT;rw[this];rfl
  rw[hmem]
  by_cases h:R (aC R 256)[m] c=true
  ·have:=(CG E hr hc).2 h
   rw[if_pos h,←this,hnum,if_pos (Nat.lt_succ_self m)]
  ·have:aT R c≠m:=fun e=>h ((CG E hr hc).1 (by rw[hnum,e]))
   rw[if_neg h]
   by_cases h2:aT R c<m
   ·rw[if_pos h2,if_pos (by omega)]
   ·rw[if_neg h2,if_neg (by omega)]
attribute [irreducible] aG aT iq posR oh jR
end
section
open Go.RowKit
section
variable {P:Program} {ops:Array Oper} {Q:Exit→Act→World→Prop} {md:Region.Mode} {R:World→World→Prop} {T:List Nat}
def oP(P:Program)(md:Region.Mode)(ops:Array Oper)(Q:Exit→Act→World→Prop)(R:World→World→Prop)(T:List Nat):Nat→Array Bool→Act→World→Prop
 | 0,listed,a,w=>∀ w1,R w w1→Region.ready md ops listed=[]∧Q .normal a w1
 | fuel+1,listed,a,w=>∀ w1,R w w1→(Region.ready md ops listed=[]→Q .normal a w1) ∧
   ∀ i∈Region.ready md ops listed,wpOp P ops Q i (fun a' w'=>(T.contains i=false→R w1 w')∧oP P md ops Q R T fuel (listed.setIfInBounds i true) a' w') a w1
theorem oP.later(ht:∀ a b c,R a b→R b c→R a c):∀ {fuel:Nat} {listed:Array Bool} {a:Act} {w w':World},oP P md ops Q R T fuel listed a w→R w w'→oP P md ops Q R T fuel listed a w'
 | 0,_,_,_,_,h,hr=>fun w1 h1=>h w1 (ht _ _ _ hr h1)
 | _+1,_,_,_,_,h,hr=>fun w1 h1=>h w1 (ht _ _ _ hr h1)
theorem J8(hr:∀ a,R a a):∀ (fuel:Nat) (listed:Array Bool) (a:Act) (w:World),oP P md ops Q R T fuel listed a w→wpAny P md ops Q fuel listed a w
 | 0,_,_,w,h=>h w (hr w)
 | fuel+1,_,_,w,h=>⟨(h w (hr w)).1,fun i hi=>wpOp_mono (fun a' w' h'=>J8 hr fuel _ a' w' h'.2) ((h w (hr w)).2 i hi)⟩
theorem EX(hrefl:∀ a,R a a)(ht:∀ a b c,R a b→R b c→R a c){i:Nat}{oi:Oper}{v:Value}(hi:ops[i]?=some oi)(hsel:∀ (j:Nat) (o:Oper) cs b,ops[j]?=some o→o.op≠.select cs b)
  (hQ:∀ c a w,Q (.panic c) (a.put oi.dst v) w→Q (.panic c) a w) (hit:T.contains i=false):∀ (fuel:Nat) (listed:Array Bool) (a:Act) (w:World),Cl md ops listed →
   (∀ j oj,ops[j]?=some oj→j≠i→listed.getD j true=false→(∀ e∈oj.after,Region.binds md e=true→e.on≠i)→oi.apart ops oj=true) →
   i∈Region.ready md ops listed→((Gives P ops R oi v a w∧∀ t∈T,needs md ops i ops.size t=true)∨∀ w0,Gives P ops R oi v a w0) →
   oP P md ops Q R T fuel (listed.setIfInBounds i true) (a.put oi.dst v) w→oP P md ops Q R T (fuel+1) listed a w:=by
 intro fuel
 induction fuel with
 | zero =>
  intro listed a w _ _ hr hg H w1 hw1
  have hy:Gives P ops R oi v a w:=hg.elim (·.1) (· w)
  refine⟨fun h=>(by rw[h] at hr;cases hr),fun j hj=>?_⟩
  by_cases hji:j=i
  ·subst hji
   exact hy.wpOp hrefl hi hw1 fun w2 h2=>⟨fun _=>h2,fun w3 h3=>H w3 (ht _ _ _ hw1 (ht _ _ _ h2 h3))⟩
  ·have:=ready_mono hj hji
   rw[(H w (hrefl _)).1] at this
   cases this
 | succ fuel ih =>
  intro listed a w hcl hfree hr hg H w1 hw1
  have hy:Gives P ops R oi v a w:=hg.elim (·.1) (· w)
  refine⟨fun h=>(by rw[h] at hr;cases hr),fun j hj=>?_⟩
  by_cases hji:j=i
  ·subst hji
   exact hy.wpOp hrefl hi hw1 fun w2 h2=>⟨fun _=>h2,oP.later ht H (ht _ _ _ hw1 h2)⟩
  ·have h1:=(H w1 hw1).2 j (ready_mono hj hji)
   obtain⟨hjun,oj,hoj,hall⟩:=mem_ready.1 hj
   have hjt:(∀ t∈T,needs md ops i ops.size t=true)→T.contains j=false:=fun hn=>by
    cases hc:T.contains j with
    | false=>rfl
    | true =>
     have h5:=zF hcl _ _ _ hoj hall (hn j (by simpa using hc))
     have h6:=(mem_ready.1 hr).1
     rcases Nat.lt_or_ge i listed.size with h' | h'
     ·simp[h'] at h5 h6;rw[h6] at h5;cases h5
     ·simp[Array.getElem?_eq_none h'] at h5
   have hnot:∀ e∈oj.after,Region.binds md e=true→e.on≠i:=fun e he hb heq=>by
    have h1:=hall e he hb
    have h0:=(mem_ready.1 hr).1
    rw[heq] at h1
    rcases Nat.lt_or_ge i listed.size with h' | h'
    ·simp[h'] at h0 h1;rw[h0] at h1;cases h1
    ·simp[Array.getElem?_eq_none h'] at h1
   have h2:=Oh (R:=R) hoj (hfree j oj hoj hji hjun hnot) (fun cs b=>hsel i oi cs b hi) (fun cs b=>hsel j oj cs b hoj) hQ h1
   have hfree':∀ k ok,ops[k]?=some ok→k≠i→(listed.setIfInBounds j true).getD k true=false →
     (∀ e∈ok.after,Region.binds md e=true→e.on≠i)→oi.apart ops ok=true:=fun k ok hk hki hun hno=>by
    refine hfree k ok hk hki ?_ hno
    by_cases hjk:j=k
    ·subst hjk;exact hjun
    ·rw[getD_set_ne true hjk] at hun;exact hun
   refine wpOp_mono (fun a' w' h3=>⟨h3.2.1,ih (listed.setIfInBounds j true) a' w' (hcl.step hj) hfree' (ready_mono hr (Ne.symm hji)) (hg.elim (fun hg=>.inl ⟨h3.1 _ (hy.later ht (ht _ _ _ hw1 (h3.2.1 (hjt hg.2)))),hg.2⟩) (fun hg=>.inr fun w0=>h3.1 w0 (hg w0))) ?_⟩) h2
   rw[Array.setIfInBounds_comm _ _ hji]
   exact h3.2.2
end
section
variable {P:Program} {ops:Array Oper} {Q:Exit→Act→World→Prop} {md:Region.Mode} {T:List Nat} {R:World→World→Prop}
theorem wL{listed:Array Bool}{i:Nat}(hc:(uJ md ops listed&&T.all (needs md ops i ops.size ·)&&!T.contains i)=true):Cl md ops listed∧(∀ t∈T,needs md ops i ops.size t=true)∧T.contains i=false:=by
 simp only[Bool.and_eq_true,Bool.not_eq_true',List.all_eq_true] at hc
 exact⟨Cl.ofB hc.1.1,hc.1.2,hc.2⟩
theorem Oo{listed:Array Bool}{i:Nat}(hc:(uJ md ops listed&&!T.contains i)=true):Cl md ops listed∧T.contains i=false:=by
 simp only[Bool.and_eq_true,Bool.not_eq_true'] at hc
 exact⟨Cl.ofB hc.1,hc.2⟩
theorem DN[hR:jI R]{i:Nat}{oi:Oper}{v:Value}{fuel:Nat}{listed:Array Bool}{a:Act}{w:World}(hi:ops[i]?=some oi)
  (hs:Region.noSelect ops=true) (hf:Region.free md ops listed i=true) (hr:(Region.ready md ops listed).contains i=true) (hc:(uJ md ops listed&&T.all (needs md ops i ops.size ·)&&!T.contains i)=true)
  (hQ:∀ c a w,Q (.panic c) (a.put oi.dst v) w→Q (.panic c) a w) (hw:Region.wanted oi (yielded ops a.tmps)=true) (hy:∀ w1,R w w1→(execOp a.eval oi).run P w1=.ok (.value v) w1)
  (h:oP P md ops Q R T fuel (listed.setIfInBounds i true) (a.put oi.dst v) w):oP P md ops Q R T (fuel+1) listed a w :=
 EX hR.refl hR.trans hi (Region.noSelect_spec hs) hQ (wL hc).2.2 fuel listed a w (wL hc).1 (Region.free_spec hi hf) (by simpa using hr) (.inl ⟨.inl ⟨hw,fun w1 h1=>.inl (hy w1 h1)⟩,(wL hc).2.1⟩) h
theorem acG[hR:jI R]{i:Nat}{oi:Oper}{v:Value}{fuel:Nat}{listed:Array Bool}{a:Act}{w:World}(hi:ops[i]?=some oi)
  (hs:Region.noSelect ops=true) (hf:Region.free md ops listed i=true) (hr:(Region.ready md ops listed).contains i=true) (hc:(uJ md ops listed&&!T.contains i)=true)
  (hQ:∀ c a w,Q (.panic c) (a.put oi.dst v) w→Q (.panic c) a w) (hw:Region.wanted oi (yielded ops a.tmps)=true) (hy:∀ w1,(execOp a.eval oi).run P w1=.ok (.value v) w1)
  (h:oP P md ops Q R T fuel (listed.setIfInBounds i true) (a.put oi.dst v) w):oP P md ops Q R T (fuel+1) listed a w :=
 EX hR.refl hR.trans hi (Region.noSelect_spec hs) hQ (Oo hc).2 fuel listed a w (Oo hc).1 (Region.free_spec hi hf) (by simpa using hr) (.inr fun _=>.inl ⟨hw,fun w1 _=>.inl (hy w1)⟩) h
theorem acH[hR:jI R]{i:Nat}{oi:Oper}{v:Value}{fuel:Nat}{listed:Array Bool}{a:Act}{w:World}{f:FuncId}{args:Array Value}(hi:ops[i]?=some oi)
  (hs:Region.noSelect ops=true) (hf:Region.free md ops listed i=true) (hr:(Region.ready md ops listed).contains i=true) (hc:(uJ md ops listed&&T.all (needs md ops i ops.size ·)&&!T.contains i)=true)
  (hQ:∀ c a w,Q (.panic c) (a.put oi.dst v) w→Q (.panic c) a w) (hw:Region.wanted oi (yielded ops a.tmps)=true) (he:∀ w1,(execOp a.eval oi).run P w1=.ok (.enter f args) w1)
  (hy:∀ w1,R w w1→Calls P f args w1 (bF w1 v))
  (h:oP P md ops Q R T fuel (listed.setIfInBounds i true) (a.put oi.dst v) w):oP P md ops Q R T (fuel+1) listed a w :=
 EX hR.refl hR.trans hi (Region.noSelect_spec hs) hQ (wL hc).2.2 fuel listed a w (wL hc).1 (Region.free_spec hi hf) (by simpa using hr) (.inl ⟨.inl ⟨hw,fun w1 h1=>.inr ⟨f,args,he w1,(hy w1 h1).mono fun _ _ k=>⟨k.1,hR.later _ _ k.2⟩⟩⟩,(wL hc).2.1⟩) h
theorem eP{i:Nat}{oi:Oper}{fuel:Nat}{listed:Array Bool}{a:Act}{w:World}(hr:Region.ready md ops listed=[i])(hi:ops[i]?=some oi)
  (h:∀ w1,R w w1→∀ K:Act→World→Prop,Shut (∀ a' w',(T.contains i=false→R w1 w')→oP P md ops Q R T fuel (listed.setIfInBounds i true) a' w'→K a' w')→if Region.wanted oi (yielded ops a.tmps)=true then Oper.wp P oi a w1 K Q else K (a.put oi.dst undef) w1) :
  oP P md ops Q R T (fuel+1) listed a w:=fun w1 h1=>by
 refine⟨fun h0=>(by rw[hr] at h0;cases h0),fun j hj=>?_⟩
 rw[hr,List.mem_singleton] at hj
 subst hj
 exact wpOp_step hi (fun K' hK=>h w1 h1 K' (fun a' w' k1 k2=>hK a' w' ⟨k1,k2⟩))
theorem nU{listed:Array Bool}{a:Act}{w:World}(hr:Region.ready md ops listed=[])(h:∀ w1,R w w1→Q .normal a w1):∀ fuel,oP P md ops Q R T fuel listed a w
 | 0=>fun w1 h1=>⟨hr,h w1 h1⟩
 | _+1=>fun w1 h1=>⟨fun _=>h w1 h1,by rw[hr];simp⟩
theorem jG[hR:jI R](T:List Nat){id:Nat}{a:Act}{w:World}(hm:P.follows .mixedOrders=true)
  (h:oP P .any ops Q R T ops.size (Array.replicate ops.size false) a w.drew):(Code.region id ops true).wp P Q a w :=
 wp_region_any hm (J8 hR.refl _ _ _ _ h)
theorem CJ[hR:jI R](i:Nat){oi:Oper}(v:Value){fuel:Nat}{listed:Array Bool}{a:Act}{w:World}(hi:ops[i]?=some oi)(hy:∀ w1,R w w1→(execOp a.eval oi).run P w1=.ok (.value v) w1)
  (h:oP P md ops Q R T fuel (listed.setIfInBounds i true) (a.put oi.dst v) w) (hw:Region.wanted oi (yielded ops a.tmps)=true:=by rfl)
  (hc:(Region.noSelect ops&&(Region.free md ops listed i&&((Region.ready md ops listed).contains i&&(uJ md ops listed&&T.all (needs md ops i ops.size ·)&&!T.contains i))))=true:=by kernel_rfl)
  (hQ:∀ c a w,Q (.panic c) (a.put oi.dst v) w→Q (.panic c) a w:=by exact fun _ _ _ h=>h):oP P md ops Q R T (fuel+1) listed a w:=by
 rw[Bool.and_eq_true,Bool.and_eq_true,Bool.and_eq_true] at hc
 exact DN hi hc.1 hc.2.1 hc.2.2.1 hc.2.2.2 hQ hw hy h
theorem EY[hR:jI R](i:Nat){oi:Oper}(v:Value){fuel:Nat}{listed:Array Bool}{a:Act}{w:World}(hi:ops[i]?=some oi)(hy:∀ w1,(execOp a.eval oi).run P w1=.ok (.value v) w1)
  (h:oP P md ops Q R T fuel (listed.setIfInBounds i true) (a.put oi.dst v) w) (hw:Region.wanted oi (yielded ops a.tmps)=true:=by rfl)
  (hc:(Region.noSelect ops&&(Region.free md ops listed i&&((Region.ready md ops listed).contains i&&(uJ md ops listed&&!T.contains i))))=true:=by kernel_rfl)
  (hQ:∀ c a w,Q (.panic c) (a.put oi.dst v) w→Q (.panic c) a w:=by exact fun _ _ _ h=>h):oP P md ops Q R T (fuel+1) listed a w:=by
 rw[Bool.and_eq_true,Bool.and_eq_true,Bool.and_eq_true] at hc
 exact acG hi hc.1 hc.2.1 hc.2.2.1 hc.2.2.2 hQ hw hy h
theorem uN[hR:jI R]{i:Nat}{l:List Nat}{oi:Oper}(v:Value){fuel:Nat}{listed:Array Bool}{a:Act}{w:World}(hi:ops[i]?=some oi)(hy:∀ w1,(execOp a.eval oi).run P w1=.ok (.value v) w1)
  (h:Pl l (oP P md ops Q R T fuel (listed.setIfInBounds i true) (a.put oi.dst v) w)) (hw:Region.wanted oi (yielded ops a.tmps)=true:=by rfl)
  (hc:(Region.noSelect ops&&(Region.free md ops listed i&&((Region.ready md ops listed).contains i&&(uJ md ops listed&&!T.contains i))))=true:=by kernel_rfl)
  (hQ:∀ c a w,Q (.panic c) (a.put oi.dst v) w→Q (.panic c) a w:=by exact fun _ _ _ h=>h):Pl (i::l) (oP P md ops Q R T (fuel+1) listed a w):=by
 unfold Pl at *
 exact EY i v hi hy h hw hc hQ
theorem clT[hR:jI R](i:Nat){oi:Oper}(f:FuncId)(args:Array Value)(v:Value){fuel:Nat}{listed:Array Bool}{a:Act}{w:World}(hi:ops[i]?=some oi)
  (he:∀ w1,(execOp a.eval oi).run P w1=.ok (.enter f args) w1) (hy:∀ w1,R w w1→Calls P f args w1 (bF w1 v))
  (h:oP P md ops Q R T fuel (listed.setIfInBounds i true) (a.put oi.dst v) w) (hw:Region.wanted oi (yielded ops a.tmps)=true:=by rfl)
  (hc:(Region.noSelect ops&&(Region.free md ops listed i&&((Region.ready md ops listed).contains i&&(uJ md ops listed&&T.all (needs md ops i ops.size ·)&&!T.contains i))))=true:=by kernel_rfl)
  (hQ:∀ c a w,Q (.panic c) (a.put oi.dst v) w→Q (.panic c) a w:=by exact fun _ _ _ h=>h):oP P md ops Q R T (fuel+1) listed a w:=by
 rw[Bool.and_eq_true,Bool.and_eq_true,Bool.and_eq_true] at hc
 exact acH hi hc.1 hc.2.1 hc.2.2.1 hc.2.2.2 hQ hw he hy h
end
end
section
open Go.RowKit
theorem ak{P:Program}{ops:Array Oper}{rest:List Oper}{o:Oper}{a:Act}{w:World}{Q:Exit→Act→World→Prop}(hw:Region.wanted o (yielded ops a.tmps)=true)(ty:TypeId)(x:Operand)(ho:o.op=.load ty x)
  (g:Nat) (hx:a.eval x=.pointer (some ⟨g,0,none⟩)) (t:TypeId) (cs:Array Value) (fr:Nat×Nat) (d:TypeDesc) (hg:w.heap[g]?=some (.cells cs t fr))
  (hu:P.underlying ty=some d) (hd:(match d with | .struct _ | .array _ _=>true | _=>false)=true) (hi:(P.info? ty).map (·.size)=some cs.size)
  (h:wpList P ops Q rest (a.put o.dst (.agg cs)) w):wpList P ops Q (o::rest) a w :=
 BigFrame.wpList_want hw fun _ hK=>wp_load_row ty x ho g hx t cs fr d hg hu hd hi (hK _ _ h)
end
section
open Go.RowKit
theorem Own.less{α:Type}{w:World}{base E size n cap:Nat}{enc:α→List Value}{a:Option Addr}{xs ys:List α}(h:Own w base E size enc (.slice a n cap) (xs++ys)):Own w base E size enc (.slice a xs.length cap) xs:=by
 obtain⟨a',cap',hv,hle,hm,hh⟩:=h
 obtain⟨rfl,_,rfl⟩:=Value.slice.inj hv
 rw[List.length_append] at hle
 refine⟨_,_,rfl,by omega,hm,?_⟩
 rcases hh with hh | ⟨g,cur,ha,hbg,hg,hs,hx⟩
 ·exact .inl hh
 ·refine .inr ⟨g,cur,ha,hbg,hg,hs,fun i hi j hj=>?_⟩
  have:=hx i (by rw[List.length_append];omega) j hj
  rwa[List.getElem_append_left hi] at this
end
section
open Go.RowKit
def Halt(p:Prop):Prop:=p
theorem Halt.go{p:Prop}(h:Halt p):p:=h
theorem Halt.gen{P:Program}{ops:Array Oper}{l:List Oper}{Q:Exit→Act→World→Prop}{a:Act}{w:World}(h:∀ W,W=w→wpList P ops Q l a W):Halt (wpList P ops Q l a w):=h w rfl
end
section
open Go.RowKit
def kU{α:Type}(w:World)(base E size:Nat)(enc:α→List Value)(v:Value)(xs:List α):Prop :=
 ∃ (a:Option Addr) (cap:Nat),v=.slice a xs.length cap∧xs.length≤cap∧cap≤maxLen∧((a=none∧cap=0) ∨
  ∃ g cur,a=some ⟨g,0,none⟩∧base≤g∧Box w g cur E∧cap*size≤cur.size∧cur.toList.take (xs.length*size)=xs.flatMap enc)
section
variable {α:Type} {w:World} {base E size:Nat} {enc:α→List Value} {v:Value} {xs:List α}
theorem kU.form(h:kU w base E size enc v xs):∃ a cap,v=.slice a xs.length cap:=by obtain⟨a,cap,hv,_⟩:=h;exact⟨a,cap,hv⟩
theorem kU.nil(w:World)(base E size:Nat)(enc:α→List Value):kU w base E size enc (.slice none 0 0) []:=⟨none,0,rfl,Nat.le_refl _,by simp[maxLen],.inl ⟨rfl,rfl⟩⟩
theorem kU.same{w':World}(h:kU w base E size enc v xs)(hb:∀ b,v.ownBlock=some b→w'.heap[b]?=w.heap[b]?):kU w' base E size enc v xs:=by
 obtain⟨a,cap,rfl,hle,hm,hh⟩:=h
 refine⟨a,cap,rfl,hle,hm,hh.imp id ?_⟩
 rintro⟨g,cur,rfl,hbg,hg,hr⟩
 exact⟨g,cur,rfl,hbg,(hb g rfl).trans hg,hr⟩
theorem kU.row(h:kU w base E size enc v xs)(g:Nat)(hg:v.ownBlock=some g):base≤g∧g<w.heap.size:=by
 obtain⟨a,cap,rfl,hle,hm,hh⟩:=h
 rcases hh with⟨rfl,_⟩ | ⟨g',cur,rfl,hb,hx,_⟩
 ·cases hg
 ·cases hg;exact⟨hb,hx.lt⟩
theorem kU.kept{w':World}(h:kU w base E size enc v xs)(hb:Below w.heap.size w w'):kU w' base E size enc v xs:=h.same fun b hb'=>hb.block b (h.row b hb').2
theorem kU.cell{a:Option Addr}{n cap:Nat}(h:kU w base E size enc (.slice a n cap) xs)(he:∀ x,(enc x).length=size):n=xs.length∧xs.length≤cap∧cap≤9223372036854775807∧∃ g,(∀ i,i<xs.length→a=some ⟨g,0,none⟩)∧∀ i (h:i<xs.length) j,j<size→w.cell? ⟨g,i*size+j,none⟩=(enc xs[i])[j]?:=by
 obtain⟨a',cap',hv,hle,hm,hh⟩:=h
 obtain⟨rfl,rfl,rfl⟩:=Value.slice.inj hv
 refine⟨rfl,hle,hm,?_⟩
 rcases hh with⟨_,rfl⟩ | ⟨g,cur,ha,hb,hg,hs,hx⟩
 ·exact⟨0,fun i hi=>by omega,fun i hi=>by omega⟩
 ·refine⟨g,fun _ _=>ha,fun i hi j hj=>?_⟩
  have h1:(i+1)*size≤xs.length*size:=Nat.mul_le_mul_right _ hi
  rw[Nat.succ_mul] at h1
  have:=congrArg (fun l=>l[i*size+j]?) hx
  simp only[List.getElem?_take,if_pos (show i*size+j<xs.length*size by omega)] at this
  rw[hg.cell,←Array.getElem?_toList,this]
  exact nR he xs i j hi hj
theorem kU.cut{a:Option Addr}{n cap:Nat}{ys:List α}{x:α}(h:kU w base E size enc (.slice a n cap) (ys++[x]))(he:∀ x,(enc x).length=size):kU w base E size enc (.slice a ys.length ys.length) ys:=by
 obtain⟨a',cap',hv,hle,hm,hh⟩:=h
 obtain⟨rfl,rfl,rfl⟩:=Value.slice.inj hv
 rw[List.length_append,List.length_singleton] at *
 refine⟨a,_,rfl,Nat.le_refl _,by omega,?_⟩
 rcases hh with⟨_,rfl⟩ | ⟨g,cur,ha,hb,hg,hs,hx⟩
 ·omega
 ·have h1:ys.length*size≤cap*size:=Nat.mul_le_mul_right _ (by omega)
  refine .inr ⟨g,cur,ha,hb,hg,by omega,?_⟩
  have:=congrArg (List.take (ys.length*size)) hx
  rw[List.take_take,Nat.min_eq_left (Nat.mul_le_mul_right _ (Nat.le_succ _)),List.flatMap_append,List.take_append_of_le_length (by rw[iC he];exact Nat.le_refl _),List.take_of_length_le (l:=ys.flatMap enc) (by rw[iC he];exact Nat.le_refl _)] at this
  exact this
theorem UN{P:Program}(t ty:TypeId){z:Value}{bytes:Nat}(hE:dI P t E z size bytes)(he:dX enc size)(h:kU w base E size enc v xs)(hbase:base≤w.heap.size)(ad:Addr)(c:Nat)(y:α)(hnews:∀ j u,(enc y)[j]?=some u→w.cell? (ad.add j)=some u)(hn:xs.length+1≤1099511627776)(hbytes:(xs.length+1)*bytes≤140737488355328) :
  ∃ a' cap' w',(Builtin.append_ #[t,t] ty #[v,.slice (some ad) 1 c]).run P w=.ok (.slice a' (xs.length+1) cap') w'∧kU w' base E size enc (.slice a' (xs.length+1) cap') (xs++[y])∧w.grownBy w' v.ownBlock∧((Value.slice a' (xs.length+1) cap').ownBlock=v.ownBlock∨(Value.slice a' (xs.length+1) cap').ownBlock=some w.heap.size):=by
 obtain⟨i,hi,hz,hsz,hby⟩:=hE.info
 obtain⟨a,cap,rfl,hle,hm,hh⟩:=h
 have hm63:xs.length+1≤maxLen:=by simp only[maxLen];omega
 have hl:((xs++[y]).length)=xs.length+1:=by simp
 have hfl:(xs.flatMap enc).length=xs.length*size:=iC he.len xs
 have hf2:((xs++[y]).flatMap enc).length=(xs.length+1)*size:=by rw[iC he.len,hl]
 have Zw:(enc y).length=1*i.size:=by rw[he.len,hsz,Nat.one_mul]
 have e3:(xs++[y]).flatMap enc=xs.flatMap enc++enc y:=by rw[List.flatMap_append];simp
 have grown:∀ (old:Nat) (row:Option Nat),
   kU (w.drew.alloc (.cells ((xs.flatMap enc).toArray++(enc y).toArray++Builtin.zeroCells z.cells (grownCap w (xs.length+1) old E - (xs.length+1))) E)) base E size enc (.slice (some ⟨w.heap.size,0,none⟩) (xs.length+1) (grownCap w (xs.length+1) old E)) (xs++[y]) ∧
   w.grownBy (w.drew.alloc (.cells ((xs.flatMap enc).toArray++(enc y).toArray++Builtin.zeroCells z.cells (grownCap w (xs.length+1) old E - (xs.length+1))) E)) row:=by
  intro old row
  have hge:=grownCap_ge w (xs.length+1) old E
  have hcm:=grownCap_le_maxLen w (xs.length+1) old E hm63
  refine⟨⟨_,_,by rw[hl],by rw[hl];exact hge,hcm,.inr ⟨w.heap.size,_,rfl,hbase,heap_alloc_new w.drew _,?_,?_⟩⟩,⟨rfl,rfl,rfl,by simp,fun k hk _=>Below.heap_alloc w.drew _ k hk⟩⟩
  ·generalize grownCap w (xs.length+1) old E=C at *
   simp only[Array.size_append,List.size_toArray,size_zeroCells,hfl,he.len,hE.Dx]
   have:(C - (xs.length+1))*size+(xs.length+1)*size=C*size:=by rw[←Nat.add_mul];congr 1;omega
   rw[Nat.succ_mul] at this
   omega
  ·rw[hl]
   simp only[Array.toList_append,List.append_assoc]
   rw[←List.append_assoc,←e3,←hf2,List.take_left]
 rcases hh with⟨rfl,rfl⟩ | ⟨g,cur,rfl,hb,hg,hs,hx⟩
 ·obtain rfl:xs=[]:=List.eq_nil_of_length_eq_zero (by omega)
  have hr:=run_append_nil (P:=P) w t ty E i z hE.slice hi hz ad 1 c (enc y) Zw hnews (by omega) (by omega) (by rw[hby];simp at hbytes;omega)
  have hgr:=grown 0 (Value.ownBlock (.slice none 0 0))
  exact⟨_,_,_,by simpa using hr,by simpa using hgr.1,hgr.2,.inr rfl⟩
 ·by_cases hroom:xs.length+1≤cap
  ·have hcs:(xs.length+1)*size≤cur.size:=Nat.le_trans (Nat.mul_le_mul_right _ hroom) hs
   have hr:=run_append_room (P:=P) w t ty E i hE.slice hi g xs.length cap cur hg ad 1 c (enc y) Zw hnews (he.one y) hroom (by rw[Zw,hsz];rw[Nat.succ_mul] at hcs;omega)
   refine⟨_,_,_,hr,⟨_,cap,by rw[hl],by rw[hl];exact hroom,hm,.inr ⟨g,_,rfl,hb,setRow_heap w g cur _ E _ hg,?_,?_⟩⟩,⟨rfl,rfl,rfl,by simp,fun k _ hk=>setRow_other w g k _ (fun e=>hk (by simp[Value.ownBlock,e]))⟩,.inl rfl⟩
   ·simp only[List.size_toArray,List.length_append,List.length_take,List.length_drop,Array.length_toList,Zw,hsz]
    rw[Nat.succ_mul] at hcs
    omega
   ·rw[hl,hsz,hx]
    simp only[List.append_assoc]
    rw[←List.append_assoc,←e3,←hf2]
    show List.take _ (_++_)=_
    rw[List.take_left]
  ·have holds:∀ j u,(xs.flatMap enc)[j]?=some u→w.cell? ((⟨g,0,none⟩:Addr).add j)=some u:=fun j u hu=>by
    have hj:j<xs.length*size:=by have:=(List.getElem?_eq_some_iff.1 hu).1;rwa[hfl] at this
    have:=congrArg (fun l=>l[j]?) hx
    simp only[List.getElem?_take,if_pos hj] at this
    rw[show(⟨g,0,none⟩:Addr).add j=⟨g,j,none⟩ by rw[Addr.add_lit,Nat.zero_add],hg.cell,←Array.getElem?_toList,this,hu]
   have hr:=run_append_grow (P:=P) w t ty E i z hE.slice hi hz ⟨g,0,none⟩ xs.length cap (xs.flatMap enc) (by rw[hfl,hsz]) holds ad 1 c (enc y) Zw hnews (by omega) (by omega) (growslice_fits (by omega) (by rw[hby];exact hbytes))
   have hgr:=grown cap (Value.ownBlock (.slice (some ⟨g,0,none⟩) xs.length cap))
   exact⟨_,_,_,hr,hgr.1,hgr.2,.inr rfl⟩
theorem XE{P:Program}{o:Oper}{a:Act}{K:Act→World→Prop}{Q:Exit→Act→World→Prop}(s x:Operand)(t:TypeId)
  (ho:o.op=.call { callee:=.builtin .append,args:=#[s,x],argTypes:=#[t,t] }) {z:Value} {bytes:Nat} (hE:dI P t E z size bytes) (he:dX enc size) (hs:a.eval s=v) (h:kU w base E size enc v xs) (hbase:base≤w.heap.size) (ad:Addr) (c:Nat) (y:α) (hx:a.eval x=.slice (some ad) 1 c) (hy:∀ j u,(enc y)[j]?=some u→w.cell? (ad.add j)=some u) (hn:xs.length+1≤1099511627776) (hbytes:(xs.length+1)*bytes≤140737488355328)
  (hk:∀ a' cap' w',kU w' base E size enc (.slice a' (xs.length+1) cap') (xs++[y])→w.grownBy w' v.ownBlock→((Value.slice a' (xs.length+1) cap').ownBlock=v.ownBlock∨(Value.slice a' (xs.length+1) cap').ownBlock=some w.heap.size)→K (a.put o.dst (.slice a' (xs.length+1) cap')) w'):Oper.wp P o a w K Q:=by
 obtain⟨a',cap',w',hr,h1,h2,h3⟩:=UN (P:=P) t o.type hE he h hbase ad c y hy hn hbytes
 unfold Oper.wp execOp
 simp only[ho,resolve,invoke,builtin,Sem.run_bind,Sem.run_pure,Result.andThen_ok,List.map_toArray,List.map_cons,List.map_nil,hs,hx,hr]
 exact hk a' cap' w' h1 h2 h3
theorem Nb{P:Program}{ops:Array Oper}{rest:List Oper}{o:Oper}{a:Act}{Q:Exit→Act→World→Prop}(hgd:o.guard=none)(s x:Operand)(t:TypeId)
  (ho:o.op=.call { callee:=.builtin .append,args:=#[s,x],argTypes:=#[t,t] }) {z:Value} {bytes:Nat} (hE:dI P t E z size bytes) (he:dX enc size) (hs:a.eval s=v) (h:kU w base E size enc v xs) (hbase:base≤w.heap.size) (ad:Addr) (c:Nat) (y:α) (hx:a.eval x=.slice (some ad) 1 c) (hy:∀ j u,(enc y)[j]?=some u→w.cell? (ad.add j)=some u) (hn:xs.length+1≤1099511627776) (hbytes:(xs.length+1)*bytes≤140737488355328)
  (hk:∀ a' cap' w',kU w' base E size enc (.slice a' (xs.length+1) cap') (xs++[y])→w.grownBy w' v.ownBlock→((Value.slice a' (xs.length+1) cap').ownBlock=v.ownBlock∨(Value.slice a' (xs.length+1) cap').ownBlock=some w.heap.size)→wpList P ops Q rest (a.put o.dst (.slice a' (xs.length+1) cap')) w'):wpList P ops Q (o::rest) a w :=
 wpList_plain hgd fun _ hK=>XE s x t ho hE he hs h hbase ad c y hx hy hn hbytes fun a' cap' w' h2 h3 h4=>hK _ _ (hk a' cap' w' h2 h3 h4)
end
end
section
open Go.RowKit
theorem Own.empty'{α:Type}{w:World}{b:Nat}(hb:b=w.heap.size)(base E size:Nat)(enc:α→List Value)(h:base≤w.heap.size):Own (w.alloc (.cells #[] E)) base E size enc (.slice (some ⟨b,0,none⟩) 0 0) []:=by
 subst hb;exact Own.empty w base E size enc h
theorem fV.open{α:Type}{w w':World}{E size:Nat}{enc:α→List Value}{L:List α}{e:Ending}(h:fV w E size enc L e w'):∃ (a:Option Addr) (cap:Nat),e=.returned (.slice a L.length cap)∧Own w' w.heap.size E size enc (.slice a L.length cap) L∧Below w.heap.size w w':=h
end
section
def jL(v:Nat):List Nat:=(List.range 64).filter fun j=>v.testBit j
theorem Hq:jL 0=[]:=by simp[jL]
theorem QE(v:Nat)(h0:v≠0)(h:v<18446744073709551616):jL v=Lib.ctz 64 v::jL (v &&& (v - 1))∧Lib.ctz 64 v<64∧v &&& (v - 1)<v:=by
 obtain⟨m,hm,hk⟩:=Lib.ctzFrom_spec 64 v (by omega) h
 have e:Lib.ctz 64 v=Lib.ctzFrom 64 v:=by simp[Lib.ctz,h0]
 rw[e]
 generalize Lib.ctzFrom 64 v=k at *
 have hp:0<2 ^ k:=Nat.pow_pos (by decide)
 have h1:v - 1=2 ^ k*(2*m)+(2 ^ k - 1):=by rw[hm,Nat.mul_add];omega
 have tv:∀ j,v.testBit j=(decide (k≤j)&&(2*m+1).testBit (j - k)):=fun j=>by rw[hm,Nat.testBit_two_pow_mul]
 have tp:∀ j,(v &&& (v - 1)).testBit j=(decide (k<j)&&v.testBit j):=fun j=>by
  rw[Nat.testBit_and,h1,Nat.testBit_two_pow_mul_add _ (by omega),tv]
  by_cases a:j<k
  ·simp[a,show ¬ k≤j by omega,show ¬ k<j by omega]
  ·by_cases b:j=k
   ·subst b;simp
   ·obtain⟨d,rfl⟩:∃ d,j=k+(d+1):=⟨j - k - 1,by omega⟩
    rw[show k+(d+1) - k=d+1 by omega]
    simp[Nat.testBit_succ,show ¬ k+(d+1)<k by omega,show k≤k+(d+1) by omega,show k<k+(d+1) by omega]
    rw[show(2*m+1) / 2=m by omega]
    exact id
 refine⟨?_,hk,?_⟩
 ·unfold jL
  have hr:List.range 64=List.range k++(k::(List.range (64 - (k+1))).map (k+1+·)):=by
   rw[show(64:Nat)=(k+1)+(64 - (k+1)) by omega,List.range_add,List.range_succ]
   simp
  rw[hr,List.filter_append,List.filter_append,List.filter_cons,List.filter_cons]
  have f1:(List.range k).filter (fun j=>v.testBit j)=[]:=List.filter_eq_nil_iff.2 fun x hx=>by rw[tv];simp[Nat.not_le.2 (List.mem_range.1 hx)]
  have f2:(List.range k).filter (fun j=>(v &&& (v - 1)).testBit j)=[]:=List.filter_eq_nil_iff.2 fun x hx=>by rw[tp];simp[Nat.not_lt.2 (Nat.le_of_lt (List.mem_range.1 hx))]
  have f3:v.testBit k=true:=by rw[tv];simp
  have f4:(v &&& (v - 1)).testBit k=false:=by rw[tp];simp
  rw[f1,f2,f3,f4]
  simp only[List.nil_append,if_true,Bool.false_eq_true,if_false]
  congr 1
  refine List.filter_congr fun x hx=>?_
  obtain⟨y,_,rfl⟩:=List.mem_map.1 hx
  rw[tp];simp[show k<k+1+y by omega]
 ·exact Nat.lt_of_le_of_lt Nat.and_le_right (by omega)
def kN(i v:Nat):List Nat:=(jL v).map (64*i+·)
def elems(s:aF):List Nat:=(List.range 256).filter (mem s)
def zh(s:aF):Nat→Nat→List Nat
 | _,0=>[]
 | i,f+1=>kN i (word s i)++zh s (i+1) f
theorem QF(s:aF)(i:Nat):((List.range 64).map (64*i+·)).filter (mem s)=kN i (word s i):=by
 rw[List.filter_map]
 unfold kN jL
 congr 1
 refine List.filter_congr fun x hx=>?_
 rw[kR];simp[List.mem_range.1 hx]
theorem Hr(s:aF):elems s=zh s 0 4:=by
 unfold elems
 rw[show List.range 256=(List.range 64).map (64*0+·)++((List.range 64).map (64*1+·)++((List.range 64).map (64*2+·)++(List.range 64).map (64*3+·))) by decide +kernel]
 simp only[List.filter_append,QF,zh,List.append_nil]
theorem acI{s:aF}{x:Nat}(h:x∈elems s):x<256:=List.mem_range.1 (List.mem_filter.1 h).1
theorem PY(s:aF):leastOf s=match elems s with | []=>-1 | b::_=>(b:Int):=by
 unfold leastOf elems
 generalize List.range 256=l
 induction l with
 | nil=>rfl
 | cons a l ih =>
  rw[List.find?_cons,List.filter_cons]
  cases mem s a
  ·simpa using ih
  ·rfl
end
end Go.Proofs.YtengfapcaaacaaaGreatDoor
