/- The texts of B24, in few letters (mini.py). -/
import Derived.Test.YtaoinbjjolikhaaGreatDoorM23
import Derived.Test.YtaoinbjjolikhaaGreatDoorM11
set_option linter.unusedVariables false
set_option linter.unusedSimpArgs false
set_option maxRecDepth 20000
set_option maxHeartbeats 3200000
namespace Go.Proofs.YtaoinbjjolikhaaGreatDoor
section
open Go.ChangeShapes Go.WideShapes Go.ChangeAt Go.RowKit Go.Deep
def zh:Value:=.agg (Array.replicate 256 (.int .u8 0)++#[.int .i64 0,.slice none 0 0,.slice none 0 0,.slice none 0 0])
theorem aj7(s:ByteArray):Value.string s=sv s.data.toList:=by
 unfold sv;cases s;rfl
theorem MI{α:Type}[Inhabited α]{n:Nat}{Q:Nat→α→Prop}(h:∀ i,i<n→∃ x,Q i x):∃ f:Nat→α,∀ i,i<n→Q i (f i) :=
 ⟨fun i=>if hi:i<n then (h i hi).choose else default,fun i hi=>by simp only[hi,dif_pos];exact(h i hi).choose_spec⟩
structure aaI(P:Program)(tD tA tU tI tN tL tM tS:TypeId)(fs:Array Field):Prop where
 mg:P.underlying tD=some (.struct fs)
 agL:fs.map (fun f=>(f.type,f.offset))=#[(tA,0),(tI,256),(tN,257),(tL,258),(tM,259)]
 arr:P.underlying tA=some (.array 256 tU)
 u8:P.underlying tU=some (.int .u8)
 int:P.underlying tI=some (.int .i64)
 rows:P.underlying tN=some (.slice tL)
 ints:P.underlying tL=some (.slice tI)
 strs:P.underlying tM=some (.slice tS)
 str:P.underlying tS=some .string
 cD:P.cellsOf tD=260
 cA:P.cellsOf tA=256
 cU:P.cellsOf tU=1
 cI:P.cellsOf tI=1
 cN:P.cellsOf tN=1
 cL:P.cellsOf tL=1
 cM:P.cellsOf tM=1
 cS:P.cellsOf tS=1
theorem TJ:∃ fs,aaI Tryz.prog 27 22 5 3 23 24 25 9 fs :=
 ⟨_,Tryz.underlying27,by kernel_rfl,Tryz.underlying22,Tryz.underlying5,Tryz.underlying3,Tryz.underlying23,Tryz.underlying24,Tryz.underlying25,Tryz.underlying9,
  by kernel_rfl,by kernel_rfl,by kernel_rfl,by kernel_rfl,by kernel_rfl,by kernel_rfl,by kernel_rfl,by kernel_rfl⟩
section
variable {H:Type} {enc:TypeId×Value→H} {P:Program} {w:World} {base:Nat} {spare:Nat→Bool} {held:Bool}
theorem yu{α:Type}[Inhabited α]{f:α→Value}{Ok:α→Prop}{t e:TypeId}(hs:P.underlying t=some (.slice e))(hc:P.cellsOf e=1)(fuel:Nat)
  (ih:∀ m c x,DataW.trod enc P w base spare held m e [c]=some x→∃ y:α,c=f y∧Ok y)
  {c:Value} {x:DataW H×List MemPlace} (h:DataW.trod enc P w base spare held fuel t [c]=some x) :
  ∃ (a:Option Addr) (cap:Nat) (l:List α),c=.slice a l.length cap∧ak w (.slice a l.length cap) 1 (fun x=>[f x]) l∧∀ i (h:i<l.length),Ok l[i]:=by
 rcases DataW.trod_slice hs h with⟨h0,_⟩ | ⟨a',len,cap,elems,rest,n,hf,h0,_,_,hle,hm,_,hel,_⟩
 ·simp at h0
  exact⟨none,0,[],h0,⟨none,0,0,0,rfl,Nat.le_refl _,by simp[maxLen],.inr ⟨rfl,fun _=>rfl⟩,fun i hi=>by simp at hi⟩,fun i hi=>by simp at hi⟩
 ·simp at h0
  subst h0
  have key:∀ i,i<len→∃ y:α,w.cell? (a'.add i)=some (f y)∧Ok y:=fun i hi=>by
   have h1:=hel i hi
   rw[hc,Nat.mul_one,List.getElem?_eq_getElem (show i<elems.length by omega)] at h1
   obtain⟨cs',h2,h3⟩:=Option.bind_eq_some_iff.1 h1
   obtain⟨h5,_,h4⟩:=World.cells?_some h2
   match cs',h5,h3,h4 with
   | [c],_,h3,h4 =>
    obtain⟨y,rfl,hy⟩:=ih n _ _ h3
    refine⟨y,?_,hy⟩
    have:=h4 0 (by simp)
    simpa [Addr.add] using this
  obtain⟨g,hg⟩:=MI key
  have hspot:0<len→a'.spot=none:=fun h0=>by
   have:=World.cell?_spot (hg 0 h0).1
   simpa [Addr.add] using this
  obtain⟨b,o,spot⟩:=a'
  refine⟨some ⟨b,o,spot⟩,cap,(List.range len).map g,by simp,⟨some ⟨b,o,spot⟩,b,o,cap,by simp,by simpa using hle,hm,?_,fun i hi j u hu=>?_⟩,fun i hi=>?_⟩
  ·by_cases h0:len=0
   ·exact .inr ⟨by simp[h0],fun h=>by cases h⟩
   ·have h1:=hspot (by omega)
    simp only at h1
    exact .inl (by rw[h1])
  ·have hi':i<len:=by simpa using hi
   have:=(hg i hi').1
   have hs2:spot=none:=hspot (by omega)
   subst hs2
   rw[Addr.add_mid] at this
   have hj:j=0:=by have:=(List.getElem?_eq_some_iff.1 hu).1;simpa using this
   subst hj
   simp at hu
   rw[←hu,Nat.mul_one,Nat.add_zero];exact this
  ·have hi':i<len:=by simpa using hi
   simpa using (hg i hi').2
theorem J5{tD tA tU tI tN tL tM tS:TypeId}{fs:Array Field}(N:aaI P tD tA tU tI tN tL tM tS fs){fuel:Nat}{cs:List Value}{x:DataW H×List MemPlace}(h:DataW.trod enc P w base spare held fuel tD cs=some x) :
  ∃ (V:aG) (D:aT),cs=V.cells.toList∧dS w V D∧(∀ b,V.of b<256)∧(∀ x∈D.names,x.length≤9223372036854775807)∧(Lit.int .i64 D.width).wf=true∧(∀ x∈D.label,(Lit.int .i64 x).wf=true)∧∀ r∈D.next,∀ x∈r,(Lit.int .i64 x).wf=true:=by
 obtain⟨xs,n,hfu,_,hl,hxl,hf⟩:=DataW.trod_struct N.mg h
 rw[N.cD] at hl
 have fl:=N.agL
 obtain⟨f0,f1,f2,f3,f4,rfl⟩:∃ a b c d e,fs=#[a,b,c,d,e]:=by
  obtain⟨l⟩:=fs
  have:l.length=5:=by have:=congrArg Array.size fl;simpa using this
  match l,this with
  | [a,b,c,d,e],_=>exact⟨a,b,c,d,e,rfl⟩
 simp only[List.map_toArray,List.map_cons,List.map_nil,Array.mk.injEq,List.cons.injEq,Prod.mk.injEq,and_true] at fl
 obtain⟨⟨t0,o0⟩,⟨t1,o1⟩,⟨t2,o2⟩,⟨t3,o3⟩,⟨t4,o4⟩⟩:=fl
 have e0:=hf 0 f0 rfl;have e1:=hf 1 f1 rfl;have e2:=hf 2 f2 rfl;have e3:=hf 3 f3 rfl;have e4:=hf 4 f4 rfl
 rw[t0,o0,N.cA] at e0;rw[t1,o1,N.cI] at e1;rw[t2,o2,N.cN] at e2;rw[t3,o3,N.cL] at e3;rw[t4,o4,N.cM] at e4
 simp only[List.size_toArray,List.length_cons,List.length_nil] at hxl
 rw[List.getElem?_eq_getElem (by omega)] at e0 e1 e2 e3 e4
 have one:∀ k,k<260→(cs.drop k).take 1=[cs.getD k default]:=fun k hk=>by
  rw[List.drop_eq_getElem_cons (by omega),List.take_succ_cons,List.take_zero]
  simp[List.getD,List.getElem?_eq_getElem (show k<cs.length by omega)]
 rw[one 256 (by decide)] at e1;rw[one 257 (by decide)] at e2;rw[one 258 (by decide)] at e3;rw[one 259 (by decide)] at e4
 rw[List.drop_zero] at e0
 obtain⟨of,c0,hof⟩:=Zg N.arr N.u8 N.cU N.cA e0
 obtain⟨wd,c1,_,hwd⟩:=DataW.trod_int N.int e1
 have ints:∀ m c x,DataW.trod enc P w base spare held m tI [c]=some x→∃ y:Int,c=.int .i64 y∧(Lit.int .i64 y).wf=true:=fun m c x h=>by
  obtain⟨z,h1,_,h2⟩:=DataW.trod_int N.int h
  simp at h1
  exact⟨z,h1,h2⟩
 have rows:∀ m c x,DataW.trod enc P w base spare held m tL [c]=some x→∃ y:Value,c=y∧∃ (r:List Int) (a:Option Addr) (cap:Nat),y=.slice a r.length cap∧ak w (.slice a r.length cap) 1 encI r∧∀ x∈r,(Lit.int .i64 x).wf=true:=fun m c x h=>by
  obtain⟨a,cap,l,h1,h2,h3⟩:=yu (f:=Value.int .i64) N.ints N.cI m ints h
  exact⟨c,rfl,l,a,cap,h1,h2,fun x hx=>by obtain⟨i,hi,rfl⟩:=List.getElem_of_mem hx;exact h3 i hi⟩
 have strs:∀ m c x,DataW.trod enc P w base spare held m tS [c]=some x→∃ y:List UInt8,c=sv y∧y.length≤9223372036854775807:=fun m c x h=>by
  obtain⟨s,h1,_,h2⟩:=DataW.trod_string N.str h
  simp at h1
  refine⟨s.data.toList,by rw[h1,aj7],?_⟩
  rw[Array.length_toList];exact h2
 obtain⟨na,nc,MJ,c2,n1,n2⟩:=yu (f:=id) N.rows N.cL _ rows e2
 obtain⟨la,lc,lab,c3,l1,l2⟩:=yu (f:=Value.int .i64) N.ints N.cI _ ints e3
 obtain⟨ma,mc,nms,c4,m1,m2⟩:=yu (f:=sv) N.strs N.cS _ strs e4
 obtain⟨g,hg⟩:=MI (n:=MJ.length) (Q:=fun i (r:List Int)=>∃ (a:Option Addr) (cap:Nat),MJ.getD i default=.slice a r.length cap∧ak w (.slice a r.length cap) 1 encI r∧∀ x∈r,(Lit.int .i64 x).wf=true) (fun i hi=>by
  obtain⟨r,a,cap,h1,h2⟩:=n2 i hi
  exact⟨r,a,cap,by simpa [List.getD,List.getElem?_eq_getElem hi] using h1,h2⟩)
 refine⟨⟨of,wd,na,MJ.length,nc,la,lab.length,lc,ma,nms.length,mc⟩,⟨of,wd,(List.range MJ.length).map g,lab,nms⟩,?_,⟨rfl,rfl,l1,m1,MJ,n1,by simp,fun i h1 h2=>?_⟩,hof,fun x hx=>?_,hwd,fun x hx=>?_,fun r hr=>?_⟩
 ·have:cs=cs.take 256++[cs.getD 256 default,cs.getD 257 default,cs.getD 258 default,cs.getD 259 default]:=by
   conv=>lhs;rw[←List.take_append_drop 256 cs]
   congr 1
   apply List.ext_getElem?
   intro i
   rw[List.getElem?_drop]
   match i with
   | 0=>simp[List.getD,List.getElem?_eq_getElem (show 256<cs.length by omega)]
   | 1=>simp[List.getD,List.getElem?_eq_getElem (show 257<cs.length by omega)]
   | 2=>simp[List.getD,List.getElem?_eq_getElem (show 258<cs.length by omega)]
   | 3=>simp[List.getD,List.getElem?_eq_getElem (show 259<cs.length by omega)]
   | i+4=>rw[List.getElem?_eq_none (by omega)];simp
  simp only[List.cons.injEq,and_true] at c1
  rw[this,c0,c1,c2,c3,c4]
  simp[aG.cells]
 ·obtain⟨a,cap,h3,h4,_⟩:=hg i h1
  rw[List.getD,List.getElem?_eq_getElem h1] at h3
  refine⟨a,cap,?_,?_⟩
  ·simpa using h3
  ·simpa using h4
 ·obtain⟨i,hi,rfl⟩:=List.getElem_of_mem hx;exact m2 i hi
 ·obtain⟨i,hi,rfl⟩:=List.getElem_of_mem hx;exact l2 i hi
 ·obtain⟨i,hi,rfl⟩:=List.mem_map.1 hr
  obtain⟨_,_,_,_,h⟩:=hg i (by simpa using hi)
  exact h
end
end
section
open Go.RowKit
theorem GU(t:Nat):∀ (l m:List (List Int)) (s:Nat),nH t (l++m) s=nH t l s++nH t m (s+l.length)
 | [],m,s=>by rw[List.nil_append];rfl
 | r::l,m,s=>by rw[List.cons_append,nH,nH,GU t l m,List.append_assoc,List.length_cons,show s+(l.length+1)=s+1+l.length by omega]
theorem Vw(t:Nat)(r:List Int)(u:Int)(s:Nat):backTo t (r++[u]) s=if u=(t:Int) then backTo t r s++[s] else backTo t r s:=by
 unfold backTo
 rw[List.filter_append,List.map_append]
 by_cases h:u=(t:Int)
 ·rw[if_pos h,List.filter_cons_of_pos (by simpa using h)];rfl
 ·rw[if_neg h,List.filter_cons_of_neg (by simpa using h),List.filter_nil,List.map_nil,List.append_nil]
theorem MK(t:Nat)(r:List Int)(s:Nat):(backTo t r s).length≤r.length:=by unfold backTo;rw[List.length_map];exact List.length_filter_le _ _
theorem PV(t m:Nat):∀ (l:List (List Int)) (s:Nat),(∀ r∈l,r.length≤m)→(nH t l s).length≤l.length*m
 | [],s,_=>by simp[nH]
 | r::l,s,h=>by
  have h1:=MK t r s
  have h2:=h r (List.mem_cons_self ..)
  have h3:=PV t m l (s+1) (fun x hx=>h x (List.mem_cons_of_mem _ hx))
  rw[nH,List.length_append,List.length_cons,Nat.succ_mul];omega
theorem GV:∀ (l m:List Int) (s:Nat),iL (l++m) s=iL l s++iL m (s+l.length)
 | [],m,s=>by rw[List.nil_append];rfl
 | k::l,m,s=>by
  rw[List.cons_append,iL,iL,GV l m,List.length_cons,show s+(l.length+1)=s+1+l.length by omega]
  split
  ·rfl
  ·rw[List.cons_append]
theorem GX:∀ (l:List Int) (s:Nat),(iL l s).length≤l.length
 | [],_=>by simp[iL]
 | k::l,s=>by have:=GX l (s+1);rw[iL];split <;> simp only[List.length_cons] <;> omega
def fK(D:aT)(k j t:Nat):List Nat:=if t<D.label.length then nH t (D.next.take k) 0++backTo t ((D.next.getD k []).take j) k else if t=D.label.length then iL (D.label.take k) 0 else []
theorem aaJ(D:aT):fK D 0 0=fun _=>[]:=by
 funext t
 unfold fK
 rw[List.take_zero,List.take_zero,List.take_zero]
 simp[nH,backTo,iL]
theorem IB{D:aT}{t:Nat}(k j:Nat)(h:t<D.label.length):fK D k j t=nH t (D.next.take k) 0++backTo t ((D.next.getD k []).take j) k:=if_pos h
theorem DN(D:aT)(k j:Nat):fK D k j D.label.length=iL (D.label.take k) 0:=(if_neg (Nat.lt_irrefl _)).trans (if_pos rfl)
theorem DR{D:aT}{t:Nat}(k j:Nat)(h:D.label.length<t):fK D k j t=[]:=(if_neg (by omega)).trans (if_neg (by omega))
theorem aaK{D:aT}{k j u:Nat}{r:List Int}(hk:D.next[k]?=some r)(hj:j<r.length)(hu:r[j]=(u:Int))(hun:u<D.label.length):fK D k (j+1)=kD (fK D k j) u (fK D k j u++[k]):=by
 have hg:D.next.getD k []=r:=by rw[List.getD_eq_getElem?_getD,hk];rfl
 funext t
 rcases Nat.lt_trichotomy t D.label.length with h | h | h
 ·have e0:fK D k (j+1) t=if u=t then fK D k j t++[k] else fK D k j t:=by
   rw[IB _ _ h,IB _ _ h,hg,List.take_succ_eq_append_getElem hj,Vw,hu]
   by_cases e:u=t
   ·rw[if_pos (by omega),if_pos e,List.append_assoc]
   ·rw[if_neg (by omega),if_neg e]
  rw[e0]
  by_cases e:u=t
  ·subst e;rw[if_pos rfl,lK]
  ·rw[if_neg e,kK _ _ (fun a=>e a.symm)]
 ·subst h;rw[kK _ _ (by omega),DN,DN]
 ·rw[kK _ _ (by omega),DR _ _ h,DR _ _ h]
theorem adq{D:aT}{k:Nat}{r:List Int}(hk:D.next[k]?=some r)(hkl:k<D.label.length):fK D (k+1) 0=if labS D k≠0 then kD (fK D k r.length) D.label.length (fK D k r.length D.label.length++[k]) else fK D k r.length:=by
 have hg:D.next.getD k []=r:=by rw[List.getD_eq_getElem?_getD,hk];rfl
 obtain⟨hk2,hr⟩:=List.getElem?_eq_some_iff.1 hk
 have hb:∀ t,t<D.label.length→fK D (k+1) 0 t=fK D k r.length t:=fun t ht=>by
  rw[IB _ _ ht,IB _ _ ht,hg,List.take_succ_eq_append_getElem hk2,GU,List.length_take,Nat.min_eq_left (by omega),Nat.zero_add,hr,List.take_zero,List.take_length]
  simp[nH,backTo]
 have he:iL (D.label.take (k+1)) 0=if labS D k≠0 then iL (D.label.take k) 0++[k] else iL (D.label.take k) 0:=by
  rw[List.take_succ_eq_append_getElem hkl,GV,List.length_take,Nat.min_eq_left (by omega),Nat.zero_add,rO.TI hkl]
  by_cases h:D.label[k]=0
  ·rw[if_neg (by simpa using h)];simp[iL,h]
  ·rw[if_pos h];simp[iL,h]
 funext t
 rcases Nat.lt_trichotomy t D.label.length with h | h | h
 ·rw[hb t h]
  split
  ·rw[kK _ _ (by omega)]
  ·rfl
 ·subst h
  rw[DN,he]
  split
  ·rw[lK,DN]
  ·rw[DN]
 ·rw[DR _ _ h]
  split
  ·rw[kK _ _ (by omega),DR _ _ h]
  ·rw[DR _ _ h]
theorem TL{D:aT}(hw:rO D)(k j t:Nat)(hk:k≤D.label.length):(fK D k j t).length≤33554432:=by
 have hwd:=hw.wd
 have hle:=hw.le
 have hrl:∀ r∈D.next,r.length≤256:=fun r hr=>by have:=hw.Oz r hr;omega
 unfold fK
 by_cases ht:t<D.label.length
 ·rw[if_pos ht,List.length_append]
  have h1:=PV t 256 (D.next.take k) 0 (fun r hr=>hrl r (List.mem_of_mem_take hr))
  have h2:=MK t ((D.next.getD k []).take j) k
  have h3:((D.next.getD k []).take j).length≤256:=by
   rw[List.length_take]
   refine Nat.le_trans (Nat.min_le_right _ _) ?_
   rw[List.getD_eq_getElem?_getD]
   cases h:D.next[k]? with
   | none=>simp
   | some r=>exact hrl r (List.mem_of_getElem? h)
  have h4:(D.next.take k).length≤65536:=Nat.le_trans (List.length_take_le _ _) (by omega)
  have h5:(D.next.take k).length*256≤65536*256:=Nat.mul_le_mul_right _ h4
  omega
 ·rw[if_neg ht]
  split
  ·have:=GX (D.label.take k) 0
   have h4:(D.label.take k).length≤k:=List.length_take_le _ _
   omega
  ·simp
theorem aaL{D:aT}(hw:rO D):(∀ t,t<D.label.length→fK D D.label.length 0 t=vY D t)∧fK D D.label.length 0 D.label.length=nZ D:=by
 constructor
 ·intro t ht
  unfold fK vY
  rw[if_pos ht,List.take_of_length_le (by rw[hw.nx];exact Nat.le_refl _),List.take_zero]
  simp[backTo]
 ·unfold fK nZ
  rw[if_neg (Nat.lt_irrefl _),if_pos rfl,List.take_length]
end
section
open Go.RowKit
def stepD(D:aT)(s j:Nat):Nat:=((D.next.getD s []).getD j 0).toNat
theorem J6(D:aT)(s:Nat)(b:UInt8):kM D s b=stepD D s (D.of b.toNat):=rfl
structure qP(w:World)(V:aG)(D:aT)(n wd lb lo nb no:Nat)(rb ro rc:Nat→Nat):Prop where
 nl:D.label.length=n
 ln:V.ln=n
 nn:V.nn=n
 la:V.la=some ⟨lb,lo,none⟩
 na:V.na=some ⟨nb,no,none⟩
 wide:D.width=(wd:Nat)
 wdb:1≤wd∧wd≤256
 PW:1≤n∧n≤65536
 lc:n≤V.lc∧V.lc≤9223372036854775807
 nc:n≤V.nc∧V.nc≤9223372036854775807
 lab:∀ k,k<n→∀ u:World,Below w.heap.size w u→u.cell? ⟨lb,lo+k,none⟩=some (.int .i64 (labS D k))
 row:∀ s,s<n→∀ u:World,Below w.heap.size w u→u.cell? ⟨nb,no+s,none⟩=some (.slice (some ⟨rb s,ro s,none⟩) wd (rc s))
 cap:∀ s,s<n→wd≤rc s∧rc s≤9223372036854775807
 cel:∀ s,s<n→∀ j,j<wd→∀ u:World,Below w.heap.size w u→u.cell? ⟨rb s,ro s+j,none⟩=some (.int .i64 (stepD D s j:Nat))
 lt:∀ s,s<n→∀ j,j<wd→stepD D s j<n
 of:∀ b,b<256→D.of b<wd
 amd:∀ s,s<n→0≤labS D s∧labS D s≤64
 blk:lb<w.heap.size∧nb<w.heap.size∧∀ s,s<n→rb s<w.heap.size
theorem qP.ame{w:World}{V:aG}{D:aT}{n wd lb lo nb no:Nat}{rb ro rc:Nat→Nat}(h:qP w V D n wd lb lo nb no rb ro rc){s:Nat}(hs:s<n)(b:UInt8):kM D s b<n:=h.lt s hs _ (h.of _ b.toNat_lt)
theorem qP.later{w w2:World}{V:aG}{D:aT}{n wd lb lo nb no:Nat}{rb ro rc:Nat→Nat}(h:qP w V D n wd lb lo nb no rb ro rc)(hb:Below w.heap.size w w2):qP w2 V D n wd lb lo nb no rb ro rc :=
 have hs:=hb.size
 ⟨h.nl,h.ln,h.nn,h.la,h.na,h.wide,h.wdb,h.PW,h.lc,h.nc,fun k hk u hu=>h.lab k hk u (hb.trans (hu.mono hs)),fun k hk u hu=>h.row k hk u (hb.trans (hu.mono hs)),h.cap,fun k hk j hj u hu=>h.cel k hk j hj u (hb.trans (hu.mono hs)),h.lt,h.of,h.amd,
  ⟨Nat.lt_of_lt_of_le h.blk.1 hs,Nat.lt_of_lt_of_le h.blk.2.1 hs,fun s h1=>Nat.lt_of_lt_of_le (h.blk.2.2 s h1) hs⟩⟩
theorem machC{w:World}{V:aG}{D:aT}(h:dS w V D)(hw:rO D):∃ n wd lb lo nb no rb ro rc,qP w V D n wd lb lo nb no rb ro rc:=by
 obtain⟨_,hwd,h3,_,rows,h5,h6,h7⟩:=h
 obtain⟨lb,lo,e3,c3,c3',a3,k3⟩:=h3.dG
 obtain⟨nb,no,e5,c5,Tz,a5,k5⟩:=h5.dG
 have hpos:=hw.pos
 have hnx:=hw.nx
 have apY:=hw.of 0 (by decide)
 obtain⟨wd,hwd2⟩:∃ wd:Nat,D.width=(wd:Nat):=⟨D.width.toNat,by have:=hw.wd;omega⟩
 have hrow:∀ s,∃ rb ro rc,s<D.label.length→(rows.getD s (.int .i64 0)=.slice (some ⟨rb,ro,none⟩) wd rc)∧wd≤rc∧rc≤9223372036854775807∧∀ j,j<wd→∀ u:World,Below w.heap.size w u→u.cell? ⟨rb,ro+j,none⟩=some (.int .i64 (stepD D s j:Nat)):=fun s=>by
  by_cases hs:s<D.label.length
  ·have hs1:s<rows.length:=by omega
   have hs2:s<D.next.length:=by omega
   obtain⟨a,c,hr,hsl⟩:=h7 s hs1 hs2
   have hl:=hw.Oz _ (List.getElem_mem hs2)
   have Ae:(D.next[s]).length=wd:=by omega
   obtain⟨rb,ro,e,q1,q2,ha,hc⟩:=hsl.dG
   obtain rfl:=ha 0 (by omega)
   refine⟨rb,ro,c,fun _=>⟨?_,by omega,q2,fun j hj u hu=>?_⟩⟩
   ·rw[List.getD_eq_getElem?_getD,List.getElem?_eq_getElem hs1,Option.getD_some,hr,Ae]
   ·have hj2:j<(D.next[s]).length:=by omega
    rw[hc j hj2 u hu]
    have ht:=hw.row _ (List.getElem_mem hs2) _ (List.getElem_mem hj2)
    have e:((stepD D s j:Nat):Int)=D.next[s][j]:=by
     unfold stepD
     simp only[List.getD_eq_getElem?_getD,List.getElem?_eq_getElem hs2,Option.getD_some,List.getElem?_eq_getElem hj2]
     omega
    rw[e]
  ·exact⟨0,0,0,fun h=>absurd h hs⟩
 have hr1:∃ f:Nat→Nat×Nat×Nat,∀ s,s<D.label.length→(rows.getD s (.int .i64 0)=.slice (some ⟨(f s).1,(f s).2.1,none⟩) wd (f s).2.2)∧wd≤(f s).2.2∧(f s).2.2≤9223372036854775807∧∀ j,j<wd→∀ u:World,Below w.heap.size w u→u.cell? ⟨(f s).1,(f s).2.1+j,none⟩=some (.int .i64 (stepD D s j:Nat)):=by
  have:∀ s,∃ p:Nat×Nat×Nat,s<D.label.length→(rows.getD s (.int .i64 0)=.slice (some ⟨p.1,p.2.1,none⟩) wd p.2.2)∧wd≤p.2.2∧p.2.2≤9223372036854775807∧∀ j,j<wd→∀ u:World,Below w.heap.size w u→u.cell? ⟨p.1,p.2.1+j,none⟩=some (.int .i64 (stepD D s j:Nat)):=fun s=>by
   obtain⟨rb,ro,rc,h⟩:=hrow s
   exact⟨(rb,ro,rc),h⟩
  exact Classical.axiomOfChoice this
 obtain⟨f,hf⟩:=hr1
 have hcl:∀ s,s<D.label.length→∀ u:World,Below w.heap.size w u→u.cell? ⟨nb,no+s,none⟩=some (.slice (some ⟨(f s).1,(f s).2.1,none⟩) wd (f s).2.2):=fun s hs u hu=>by
  have hs1:s<rows.length:=by omega
  rw[k5 s hs1 u hu,←(hf s hs).1,List.getD_eq_getElem?_getD,List.getElem?_eq_getElem hs1];rfl
 have hst:∀ s,s<D.label.length→∀ j,j<wd→stepD D s j<D.label.length:=fun s hs j hj=>by
  have hs2:s<D.next.length:=by omega
  have hl:=hw.Oz _ (List.getElem_mem hs2)
  have hj2:j<(D.next[s]).length:=by omega
  have ht:=hw.row _ (List.getElem_mem hs2) _ (List.getElem_mem hj2)
  unfold stepD
  simp only[List.getD_eq_getElem?_getD,List.getElem?_eq_getElem hs2,Option.getD_some,List.getElem?_eq_getElem hj2]
  omega
 refine⟨D.label.length,wd,lb,lo,nb,no,fun s=>(f s).1,fun s=>(f s).2.1,fun s=>(f s).2.2,rfl,e3,by omega,a3 0 (by omega),a5 0 (by omega),hwd2,⟨by omega,by have:=hw.wd;omega⟩,⟨hpos,hw.le⟩,⟨by omega,c3'⟩,⟨by omega,Tz⟩,fun k hk u hu=>?_,hcl,fun s hs=>⟨(hf s hs).2.1,(hf s hs).2.2.1⟩,fun s hs=>(hf s hs).2.2.2,hst,fun b hb=>by have:=hw.of b hb;omega,fun s hs=>?_,?_,?_,fun s hs=>?_⟩
 ·rw[rO.TI hk];exact k3 k hk u hu
 ·rw[rO.TI hs]
  have:=hw.lab _ (List.getElem_mem hs)
  have:=hw.names
  omega
 ·exact World.block_lt_of_cell? w _ (k3 0 (by omega) w (Below.refl _ _))
 ·exact World.block_lt_of_cell? w _ (hcl 0 (by omega) w (Below.refl _ _))
 ·exact World.block_lt_of_cell? w _ ((hf s hs).2.2.2 0 (by omega) w (Below.refl _ _))
end
section
open Go.RowKit
theorem DT{w u:World}{V:aG}{D:aT}{n wd lb lo nb no:Nat}{rb ro rc:Nat→Nat}(hM:qP w V D n wd lb lo nb no rb ro rc)(hV:V.of=D.of)(hu:Below w.heap.size w u){b E s bn:Nat}(hx:Box u b V.cells E)(hs:s<n)(hb:bn<256) :
  u.cell? ⟨b,257,none⟩=some (.slice (some ⟨nb,no,none⟩) n V.nc)∧u.cell? ⟨b,bn,none⟩=some (.int .u8 (D.of bn:Nat))∧u.cell? ⟨nb,no+s,none⟩=some (.slice (some ⟨rb s,ro s,none⟩) wd (rc s))∧u.cell? ⟨rb s,ro s+D.of bn,none⟩=some (.int .i64 (stepD D s (D.of bn):Nat))∧u.cell? ⟨b,258,none⟩=some (.slice (some ⟨lb,lo,none⟩) n V.lc)∧u.cell? ⟨lb,lo+s,none⟩=some (.int .i64 (labS D s)):=by
 refine⟨?_,?_,hM.row s hs u hu,hM.cel s hs _ (hM.of bn hb) u hu,?_,hM.lab s hs u hu⟩
 ·rw[hx.cell,V.AV,hM.na,hM.nn]
 ·rw[hx.cell,V.Gx bn hb,hV]
 ·rw[hx.cell,V.nC,hM.la,hM.ln]
theorem PX(D:aT)(s:Nat)(v:List UInt8)(b:UInt8):dH D s (v++[b])=kM D (dH D s v) b:=by rw[Vu];rfl
theorem qP.run{w:World}{V:aG}{D:aT}{n wd lb lo nb no:Nat}{rb ro rc:Nat→Nat}(h:qP w V D n wd lb lo nb no rb ro rc):∀ (v:List UInt8) {s:Nat},s<n→dH D s v<n
 | [],_,hs=>hs
 | b::v,_,hs=>h.run v (h.ame hs b)
end
section
open Go.RowKit
theorem zi(l:List Nat):(l.map fun k:Nat=>(k:Int)).map (Value.int .i64)=l.flatMap aS:=by
 induction l with
 | nil=>rfl
 | cons x l ih=>rw[List.map_cons,List.map_cons,ih,List.flatMap_cons];rfl
theorem aaM(l:List Nat)(b0:Nat)(a:Option Addr)(n cap:Nat)(w:World)(h:Own w b0 3 1 aS (.slice a n cap) l)(hl:l.length≤1099511627776) :
  Calls Tryz.prog 45 #[.slice a n cap] w (jh w 3 1 aS l):=by
 have hs:=h.slice dR
 obtain⟨a',cap',hv,hle,hm,hh⟩:=h
 obtain⟨rfl,rfl,rfl⟩:=Value.slice.inj hv
 rcases hh with⟨rfl,rfl⟩ | ⟨g,cur,rfl,hbg,hg,hcs,hx⟩
 ·obtain rfl:l=[]:=List.eq_nil_of_length_eq_zero (by omega)
  refine(Tryz.slices_Clone_int_nil 0 0 w).mono fun e w' ⟨he,hw⟩=>?_
  exact⟨none,0,he,Own.nil _ _ _ _ _,hw▸Below.refl _ _⟩
 ·have:=Tryz.slices_Clone_int g 0 l.length cap (l.map fun k:Nat=>(k:Int)) w (by simp) (by omega) (fun j hj=>by
   have hj2:j<l.length:=by simpa using hj
   have h2:=hx j hj2 0 (by decide)
   rw[hg.cell,show 0+j=j*1+0 by omega,h2]
   simp[List.getD,hj2,aS])
  refine this.mono fun e w' he=>?_
  obtain⟨v',rfl,hr,hv,hB⟩:=he
  rw[List.take_of_length_le (by simp),zi] at hr
  have ho:Own w' w.heap.size 3 1 aS v' l:=Own.ofRow hr dR
  obtain⟨a',c',rfl⟩:=ho.form
  exact⟨a',c',rfl,ho,hB⟩
def QH(b:Bool):List Value:=[.bool b]
theorem TM:gq QH 1:=⟨fun _=>rfl,fun x u hu=>by simp[QH] at hu;subst hu;rfl⟩
theorem PY:fG Tryz.prog 79 4 (.bool false) 1 1:=⟨Tryz.underlying79,info_parts (by kernel_rfl),rfl,by decide⟩
def vZ(n:Nat)(ws:List Nat):List Bool:=(List.range n).map fun s=>ws.contains s
theorem qC(n:Nat)(ws:List Nat):(vZ n ws).length=n:=by unfold vZ;simp
theorem EI(n:Nat)(ws:List Nat)(s:Nat)(h:s<(vZ n ws).length):(vZ n ws)[s]=ws.contains s:=by unfold vZ;simp
theorem TN(n:Nat):vZ n []=List.replicate n false:=by
 unfold vZ
 exact List.eq_replicate_iff.2 ⟨by simp,fun b hb=>by obtain⟨_,_,h⟩:=List.mem_map.1 hb;simpa using h.symm⟩
theorem TP(n:Nat)(ws:List Nat)(t:Nat):(vZ n ws).set t true=vZ n (ws++[t]):=by
 apply List.ext_getElem
 ·simp[vZ]
 ·intro i h1 h2
  rw[List.getElem_set,EI,EI]
  by_cases e:t=i
  ·subst e;simp
  ·rw[if_neg e,Bool.eq_iff_iff]
   simp only[List.contains_iff_mem,List.mem_append,List.mem_cons,List.not_mem_nil,or_false]
   exact⟨.inl,fun h=>h.elim id fun h=>absurd h.symm e⟩
structure oL(base n0 n tb:Nat)(W0:World)(X:Nat→Prop)(tv:Value)(ss ws:List Nat)(wr:World):Prop where
 there:Own wr base 4 1 QH (.slice (some ⟨tb,0,none⟩) n n) (vZ n ss)
 waits:Own wr base 3 1 aS tv ws
 own:∀ b,X b↔b=tb∨tv.ownBlock=some b
 keep:∀ b,b<n0→wr.heap[b]?=W0.heap[b]?
 size:base≤wr.heap.size∧n0≤base
theorem oL.same{base n0 n tb:Nat}{W0:World}{X:Nat→Prop}{tv:Value}{ss ws:List Nat}{wr w2:World}(h:oL base n0 n tb W0 X tv ss ws wr)(hs:wr.heap.size≤w2.heap.size)(hk:∀ b,X b∨b<n0→w2.heap[b]?=wr.heap[b]?):oL base n0 n tb W0 X tv ss ws w2 :=
 ⟨h.there.same fun g hg=>hk g (.inl ((h.own g).2 (.inl (by cases hg;rfl)))),h.waits.same fun g hg=>hk g (.inl ((h.own g).2 (.inr hg))),h.own,fun b hb=>(hk b (.inr hb)).trans (h.keep b hb),⟨Nat.le_trans h.size.1 hs,h.size.2⟩⟩
theorem oL.blk{base n0 n tb:Nat}{W0:World}{X:Nat→Prop}{tv:Value}{ss ws:List Nat}{wr:World}(h:oL base n0 n tb W0 X tv ss ws wr){b:Nat}(hx:X b):base≤b∧b<wr.heap.size:=by
 rcases (h.own b).1 hx with rfl | e
 ·exact h.there.blk rfl
 ·exact h.waits.blk e
theorem oL.kept{base n0 n tb:Nat}{W0:World}{X:Nat→Prop}{tv:Value}{ss ws:List Nat}{wr w2:World}(h:oL base n0 n tb W0 X tv ss ws wr)(hb:Below wr.heap.size wr w2):oL base n0 n tb W0 X tv ss ws w2 :=
 h.same hb.size fun b hx=>hb.block b (by
  rcases hx with hx | hx
  ·exact(h.blk hx).2
  ·have:=h.size;omega)
theorem oL.ahM{base n0 n tb:Nat}{W0:World}{X:Nat→Prop}{tv:Value}{ss ws:List Nat}{wr:World}(h:oL base n0 n tb W0 X tv ss ws wr):tv.ownBlock≠some tb:=fun e=>by
 obtain⟨_,c1,b1⟩:=h.waits.block _ e
 obtain⟨_,c2,b2⟩:=h.there.block tb rfl
 exact absurd (b1.lS b2) (by decide)
theorem oL.mark{base n0 n tb:Nat}{W0:World}{X:Nat→Prop}{tv:Value}{ss ws:List Nat}{wr:World}(h:oL base n0 n tb W0 X tv ss ws wr){t:Nat}(ht:t<n) :
  oL base n0 n tb W0 X tv (ss++[t]) ws (wr.setCell ⟨tb,t,none⟩ (.bool true))∧QD X X wr (wr.setCell ⟨tb,t,none⟩ (.bool true)) (some tb):=by
 have hl:=qC n ss
 have h1:=h.there.store1 (i:=t) (j:=0) (by rw[hl];exact ht) (by decide) true (.bool true) (fun k hk=>by
  have hk0:k=0:=Nat.lt_one_iff.1 hk
  subst hk0
  rfl)
 rw[TP,show t*1+0=t by omega] at h1
 have hne:=h.ahM
 have hlt:=h.there.blk (g:=tb) rfl
 have hsz:=h.size
 have ho:∀ b,b≠tb→(wr.setCell ⟨tb,t,none⟩ (.bool true)).heap[b]?=wr.heap[b]?:=fun b hb=>heap_setCell_other _ _ _ _ hb
 refine⟨⟨h1,h.waits.same fun g hg=>ho g fun e=>hne (e▸hg),h.own,fun b hb=>(ho b (by omega)).trans (h.keep b hb),by rw[World.size_setCell];exact hsz⟩,⟨⟨rfl,rfl,rfl,Nat.le_of_eq (World.size_setCell _ _ _).symm,fun k _ hk=>ho k fun e=>hk (by rw[e])⟩,fun r e=>?_,fun b hb=>.inl hb⟩⟩
 cases e
 exact(h.own tb).2 (.inl rfl)
theorem oL.wait{base n0 n tb:Nat}{W0:World}{X:Nat→Prop}{tv tv':Value}{ss ws ws':List Nat}{wr w1 w2:World}(h:oL base n0 n tb W0 X tv ss ws wr)(hb:Below wr.heap.size wr w1)(ho:Own w2 base 3 1 aS tv' ws')(hg:w1.grownBy w2 tv.ownBlock)(hf:tv'.ownBlock=tv.ownBlock∨tv'.ownBlock=some w1.heap.size) :
  oL base n0 n tb W0 (fun b=>b=tb∨tv'.ownBlock=some b) tv' ss ws' w2∧QD X (fun b=>b=tb∨tv'.ownBlock=some b) wr w2 tv.ownBlock:=by
 have h1:=h.kept hb
 have hne:=h.ahM
 have hsz:=h.size
 have hs:=hb.size
 have hs2:=hg.size
 refine⟨⟨h1.there.same fun g hgg=>hg.block g (h1.there.blk hgg).2 fun e=>?_,ho,fun b=>Iff.rfl,fun b hb'=>(hg.block b (by omega) fun e=>?_).trans (h1.keep b hb'),⟨by omega,hsz.2⟩⟩,⟨⟨hg.os.trans hb.os,hg.tape.trans hb.tape,hg.output.trans hb.output,by omega,fun k hk hn=>(hg.block k (by omega) hn).trans (hb.block k hk)⟩,fun r e=>(h.own r).2 (.inr e),fun b hb'=>?_⟩⟩
 ·cases hgg;exact hne e.symm
 ·have:=(h.waits.blk e.symm).1;omega
 ·rcases hb' with rfl | e
  ·exact .inl ((h.own _).2 (.inl rfl))
  ·rcases hf with e2 | e2
   ·exact .inl ((h.own b).2 (.inr (e2▸e)))
   ·rw[e2] at e;cases e
    have:=(ho.blk e2).2
    exact .inr ⟨hs,this⟩
theorem Own.ML{w:World}{base E n cap:Nat}{a:Option Addr}{xs:List Nat}(h:Own w base E 1 aS (.slice a n cap) xs) :
  n=xs.length∧xs.length≤cap∧cap≤9223372036854775807∧∃ g,(∀ i,i<xs.length→a=some ⟨g,0,none⟩∧g<w.heap.size)∧∀ (u:World) (i:Nat) (h:i<xs.length),u.heap[g]?=w.heap[g]?→u.cell? ⟨g,i,none⟩=some (.int .i64 (xs[i]:Nat)):=by
 obtain⟨h1,h2,h3,g,cur,ha,hx⟩:=h.open
 refine⟨h1,h2,h3,g,fun i hi=>⟨ha i hi,(hx (by omega)).2.1.lt⟩,fun u i hi hu=>?_⟩
 obtain⟨_,hb,_,hc⟩:=hx (by omega)
 have h4:=hc i hi 0 (by decide)
 rw[show i*1+0=i by omega] at h4
 rw[World.cell?_of_block hu,hb.cell,h4]
 simp[aS]
def amf(og:Nat)(TQ:Array Value)(on:Nat→List Nat)(n n0:Nat)(W0:World):Prop :=
 ∀ s,s<n→∃ (a:Option Addr) (c:Nat),∀ u:World,(∀ b,b<n0→u.heap[b]?=W0.heap[b]?)→ak u (.slice a (on s).length c) 1 aS (on s)∧Calls Tryz.prog og (#[.int .i64 s]++TQ) u fun e w'=>e=.returned (.slice a (on s).length c)∧w'=u
abbrev oh(b:Nat):Value:=.pointer (some ⟨b,0,none⟩)
theorem adr(on:Nat→List Nat)(n n0:Nat)(hn:n≤65536)(fr:List Nat)(og:Nat)(TQ:Array Value)(eg:∀ args w,(callFunc og args).run Tryz.prog w=.ok (.enter og args) w)(Bn Bf Bo fb:Nat)(fa:Option Addr)(fc:Nat)(W:World)(hn0:n0≤W.heap.size)
  (hbn:Box W Bn #[.int .i64 n] 3) (hbf:Box W Bf #[.slice fa fr.length fc] 24) (hbo:Box W Bo #[.func (.func og) #[] TQ] 122) (hbl:Bn<n0∧Bf<n0∧Bo<n0) (hf:Own W fb 3 1 aS (.slice fa fr.length fc) fr) (hfl:∀ g,(Value.slice fa fr.length fc).ownBlock=some g→g<n0)
  (hnd:fr.Nodup) (hlt:∀ x∈fr,x<n) (hon:amf og TQ on n n0 W) (ahN:∀ x,x<n→∀ t∈on x,t<n)
  (l:Nat) (J:List Nat→(Nat→Prop)→World→Prop) (hT:∀ s X X' A B row,J s X A→QD X X' A B row→J s X' B) (hL:∀ s X A,J s X A→∀ b,X b→b<A.heap.size)
  (hY:∀ pre x X W1,J pre X W1→pre.length<n→YieldAt Fence.wide 0 Tryz.prog l (qZ x) W1 fun e W'=>e=.returned (.bool true)∧J (pre++[x]) X W'∧W1.heap.size≤W'.heap.size∧∀ b,(X b∨b<n0)→W'.heap[b]?=W1.heap[b]?) (h0:J [] (fun _=>False) W) :
  Calls Tryz.prog 93 #[.func (.yield l) #[] #[],oh Bn,oh Bf,oh Bo] W fun e W'=>(∃ v,e=.returned v)∧∃ xs X,xs=nG on n 0 fr∧J xs X W':=by
 have hfn:=nodup_lt_length n fr hnd hlt
 obtain⟨h1,h2,h3⟩:=hbl
 have x1:W.cell? ⟨Bn,0,none⟩=some (.int .i64 n):=hbn.cell 0
 have HBF:=ah hbf;have GY:=ah hbo;have HF:=ah hf;have uT:=ah hfl;have HND:=ah hnd;have Pn:=ah hlt;have Jd:=ah hon;have amg:=ah ahN;have WI:=ah hT;have HLL:=ah hL;have HYY:=ah hY;have H0:=ah h0
 clear hbf hbo hf hfl hnd hlt hon ahN hT hL hY h0 hbn
 have hbW:=HBF.out.lt
 go_enter Tryz.func93,Tryz.ntmps93
 go_wp2_with (refine vC rfl 79 _ _ rfl PY TM false rfl n rfl rfl (by omega) (by simp only[maxLen];omega) W.heap.size (Nat.le_refl _) ?_;intro w1 hm1 hw1;have hb1:Below W.heap.size W w1:=by { rw[hw1];exact aj _ _ };have y1:w1.cell? ⟨Bf,0,none⟩=some (.slice fa fr.length fc):=(HBF.out.kept hb1).cell 0;have hj1:J [] (fun b=>b=W.heap.size) w1:=WI.out _ _ _ _ _ none H0.out ⟨⟨hb1.os,hb1.tape,hb1.output,hb1.size,fun k hk _=>hb1.block k hk⟩,(fun _ e=>by cases e),fun b hb=>.inr ⟨Nat.le_of_eq hb.symm,by rw[show b=_ from hb,hw1,World.size_alloc];omega⟩⟩;have hs1:w1.heap.size=W.heap.size+1:=by { rw[hw1,World.size_alloc] };have DF:=ah hm1;have HJ1:=ah hj1;have HB1:=ah hb1;clear hw1 hm1 hj1 hb1 x1)
 refine(aaM fr fb fa fr.length fc w1 (HF.out.kept HB1.out) (by omega)).mono ?_
 rintro e w2 ⟨ca,cc,rfl,ho2,hb2⟩
 have y2:w2.cell? ⟨Bf,0,none⟩=some (.slice fa fr.length fc):=((HBF.out.kept HB1.out).kept hb2).cell 0
 have hw2:oL W.heap.size n0 n W.heap.size W (fun b=>b=W.heap.size∨(Value.slice ca fr.length cc).ownBlock=some b) (.slice ca fr.length cc) [] fr w2:=by
  refine⟨?_,ho2.mono (by omega),fun _=>Iff.rfl,fun b hb=>(hb2.block b (by omega)).trans (HB1.out.block b (by omega)),by have:=hb2.size;omega,hn0⟩
  rw[TN]
  exact DF.out.kept hb2
 have hj2:J [] (fun b=>b=W.heap.size∨(Value.slice ca fr.length cc).ownBlock=some b) w2:=WI.out _ _ _ _ _ none HJ1.out ⟨⟨hb2.os,hb2.tape,hb2.output,hb2.size,fun k hk _=>hb2.block k hk⟩,(fun _ e=>by cases e),fun b hb=>by
  rcases hb with h | h
  ·exact .inl h
  ·exact .inr (ho2.blk h)⟩
 have HW2:=ah hw2;have HJ2:=ah hj2
 obtain⟨_,hfc,ahP,ads,hfa,hfx⟩:=HF.out.ML
 have aaO:∀ (u:World) (k:Nat) (hk:k<fr.length),(∀ b,b<n0→u.heap[b]?=W.heap[b]?)→u.cell? ⟨ads,k,none⟩=some (.int .i64 (fr[k]:Nat)):=fun u k hk hu =>
  hfx u k hk (hu ads (uT.out ads (by rw[(hfa k hk).1];rfl)))
 have HFC:=ah aaO;have AU:=ah hfa
 clear hw2 hj2 ho2 hb2 aaO hfa hfx DF HJ1 HB1 HF y1 hs1
 obtain⟨m,hm⟩:∃ m,fr.length=m:=⟨_,rfl⟩
 have HLEN:=ah hm
 rw[hm] at hfc y2 hfn
 simp only[hm]
 go_wp2
 go_loopw [18] (fun i wr=>∃ k:Nat,k≤m∧i=.int .i64 k∧oL W.heap.size n0 n W.heap.size W (fun b=>b=W.heap.size∨(Value.slice ca m cc).ownBlock=some b) (.slice ca m cc) (fr.take k) fr wr∧J [] (fun b=>b=W.heap.size∨(Value.slice ca m cc).ownBlock=some b) wr) (fun i _=>m - (intOf i).toNat)
 case atStart=>exact⟨0,Nat.zero_le _,rfl,by rw[←HLEN.out];exact HW2.out,by rw[←HLEN.out];exact HJ2.out⟩
 case round =>
  obtain⟨k,hk,rfl,hw,hj⟩:=hrel
  by_cases hlt:k<m
  ·have hlk:k<fr.length:=by rw[HLEN.out];exact hlt
   obtain⟨hfe,apZ⟩:=AU.out k hlk
   subst hfe
   have c0:=HFC.out wr k hlk hw.keep
   have htk:fr.take (k+1)=fr.take k++[fr[k]]:=List.take_succ_eq_append_getElem hlk
   have hsn:=Pn.out _ (List.getElem_mem hlk)
   generalize fr[k]=s at *
   have hsl:=qC n (fr.take k)
   obtain⟨g1,g2,g3,g4⟩:=hw.there.cellAt (i:=s) (j:=0) (by rw[hsl];exact hsn) (by decide)
   rw[show s*1+0=s by omega] at g1 g2
   obtain⟨m1,m2⟩:=hw.mark hsn
   have hj2:=WI.out _ _ _ _ _ _ hj m2
   have ap0:=World.block_lt_of_cell? wr _ c0
   have g1':wr.cell? ⟨W.heap.size,s,none⟩=some (.bool ((vZ n (fr.take k))[s]'(by rw[hsl];exact hsn))):=by rw[g1];rfl
   have DF:=ah m1;have HJ1:=ah hj2;have vM:=ah htk
   clear m1 m2 hj2 htk hw hj g1
   have hki:(k:Int)<(m:Int):=by omega
   have hk0:(0:Int)≤(k:Int):=by omega
   have hs0:(0:Int)≤(s:Int):=by omega
   have hsi:(s:Int)<(n:Int):=by omega
   go_wp2
   exact⟨⟨k+1,hlt,by push_cast;rfl,by rw[vM.out];exact DF.out,HJ1.out⟩,by simp[intOf];omega⟩
  ·obtain rfl:k=m:=by omega
   rw[←HLEN.out,List.take_length] at hw
   rw[←HLEN.out] at hj
   obtain⟨R,hR⟩:∃ R,nG on n 0 fr=R:=⟨_,rfl⟩
   have HW:=ah hw;have HJ:=ah hj;have HR:=ah hR;have V9:=ah hfn
   clear hw hj hR HFC AU HW2 HJ2 y2 hfc ahP hlt hfn
   go_wp2
   go_loopw [6,9] (fun v6 v9 wr=>∃ (f i:Nat) (ws:List Nat) (X:Nat→Prop) (a:Option Addr) (c:Nat),v6=.slice a ws.length c∧v9=.int .i64 i∧i≤ws.length∧oL W.heap.size n0 n W.heap.size W X (.slice a ws.length c) ws ws wr∧J (ws.take i) X wr∧nG on f i ws=R∧f+i=n∧ws.Nodup∧∀ x∈ws,x<n) (fun _ v9 _=>n - (intOf v9).toNat)
   case atStart=>exact⟨n,0,fr,_,ca,cc,by rw[HLEN.out],rfl,Nat.zero_le _,HW.out,HJ.out,HR.out,rfl,HND.out,Pn.out⟩
   case round =>
    obtain⟨f,i,ws,X,a,c,rfl,rfl,hi,hw,hj,hr,hfi,hnd,hlt⟩:=hrel
    have hwn:=nodup_lt_length n ws hnd hlt
    obtain⟨_,hfc,ahP,wb,hwa,hwx⟩:=hw.waits.ML
    by_cases OA:i<ws.length
    ·obtain⟨hwe,hwl⟩:=hwa i OA
     subst hwe
     have c0:=hwx wr i OA rfl
     have hsn:=hlt _ (List.getElem_mem OA)
     obtain⟨fn,tmps,assign,body,hy,hRo⟩:=HYY.out (ws.take i) ws[i] X wr hj (by rw[List.length_take];omega)
     rw[show ws.take i++[ws[i]]=ws.take (i+1) from(List.take_succ_eq_append_getElem OA).symm] at hRo
     have hii:(i:Int)<(ws.length:Int):=by omega
     have hi0:(0:Int)≤(i:Int):=by omega
     obtain⟨f,rfl⟩:∃ f',f=f'+1:=⟨f - 1,by omega⟩
     rw[nG,List.getElem?_eq_getElem OA] at hr
     dsimp only at hr
     obtain⟨s,hs⟩:∃ s,ws[i]=s:=⟨_,rfl⟩
     rw[hs] at c0 hsn hy hr
     have HS:=ah hs;have HWX:=ah hwx;have HWK:=ah hw;have HR2:=ah hr;have ahR:=ah hnd;have ahS:=ah hlt
     clear hs hwx hw hr hnd hlt hj hwa
     go_wp2
     rename_i wW ap1
     refine wp_scope_straight ?_
     refine(wpIn_wide (n:=0)).1 ?_
     gi_wp2_with (refine⟨rfl,?_⟩;refine hRo.mono ?_;clear hRo;rintro e w2 ⟨rfl,hj2,hs2,hk2⟩)
     refine wpIn_wide.2 ?_
     refine wp_label ?_
     have hw2:=HWK.out.same hs2 hk2
     obtain⟨oa,oc,adt⟩:=Jd.out s hsn
     have HW2:=ah hw2;have HJ2:=ah hj2;have HOO:=ah adt
     have hD2:Below w2.heap.size w2 w2.drew:=(Below.refl _ _).drew
     have HF2:Hid (∀ u,Later w2.drew u→Box u Bo #[.func (.func og) #[] TQ] 122∧u.cell? ⟨wb,i,none⟩=some (.int .i64 s)∧ak u (.slice oa (on s).length oc) 1 aS (on s)∧Calls Tryz.prog og (#[.int .i64 s]++TQ) u (aX u (.slice oa (on s).length oc))∧Below w2.heap.size w2 u):=ah fun u hl=>by
      have h1:Below w2.heap.size w2 u:=hD2.trans (hl.mono hD2.size)
      have h3:=hw2.kept h1
      obtain⟨a1,a2⟩:=adt u h3.keep
      refine⟨(h3.keep Bo (by omega)).trans GY.out,?_,a1,a2.mono fun e w' ⟨b1,b2⟩=>⟨b1,b2▸Below.refl _ _⟩,h1⟩
      have e1:=HWX.out u i OA (((h1.block wb (by omega)).trans (hk2 wb (.inl ((HWK.out.own wb).2 (.inr rfl))))))
      rwa[HS.out] at e1
     clear hw2 hj2 adt hs2 hk2 hD2 c0
     go_wp2_with fail
     refine wpIn_wide.2 ?_
     go_wp2_with fail
     refine aA (R:=Later) 8 (by kernel_rfl) ?_
     refine pl [0,1,2,3,4,7] ?_
     repeat
      refine dB ?_ rfl (fun w1 hl=>?_) ?_
      rotate_left
      ·obtain⟨hX,hc,_,_,_⟩:=HF2.out w1 hl;have y2:w1.cell? ⟨Bo,0,none⟩=some (.func (.func og) #[] TQ):=hX.cell 0;go_simp;try with_reducible rfl
      simp only[eA,eB,eC,Act.put,eD,eE,eF]
     refine bP ?_
     refine zn 5 ?_ ?_ ?_ rfl (fun w1=>?_) (fun w1 hl=>?_) ?_
     rotate_left 4
     ·exact(HF2.out w1 hl).2.2.2.1
     rotate_left
     ·go_simp
     simp only[eA,eB,eC,Act.put,eD,eE,eF]
     refine jB 6 ?_ rfl (fun w1 hl=>?_) ?_
     rotate_left
     ·skip;go_simp;try with_reducible rfl
     simp only[eA,eB,eC,Act.put,eD,eE,eF]
     refine aI (by kernel_rfl) (fun w1 hl=>?_) _
     obtain⟨_,_,hsl,_,rP⟩:=HF2.out w1 hl
     have hw3:=HW2.out.kept rP
     have hj3:=WI.out _ _ X _ _ none HJ2.out ⟨⟨rP.os,rP.tape,rP.output,rP.size,fun k hk _=>rP.block k hk⟩,(fun _ e=>by cases e),fun b hb=>.inl hb⟩
     obtain⟨_,_,_,hm2,I8,_,_⟩:=hsl.open
     have hL:=amg.out s hsn
     obtain⟨L,hLL⟩:∃ L,on s=L:=⟨_,rfl⟩
     rw[hLL] at HOO HR2 hL hm2 ⊢
     obtain⟨m2,adu⟩:∃ m2,L.length=m2:=⟨_,rfl⟩
     have HW3:=ah hw3;have HJ3:=ah hj3;have ZV:=ah adu;have adv:=ah hL
     rw[adu] at hm2 ⊢
     clear hw3 hj3 hl rP HF2 hsl adu hLL hL HW2 HJ2
     go_wp2
     go_loopw [6,46] (fun v6 v46 wr=>∃ (j:Nat) (ws':List Nat) (X':Nat→Prop) (a':Option Addr) (c':Nat),v6=.slice a' ws'.length c'∧v46=.int .i64 j∧j≤m2∧ws'=lF (L.take j) ws∧oL W.heap.size n0 n W.heap.size W X' (.slice a' ws'.length c') ws' ws' wr∧J (ws.take (i+1)) X' wr) (fun _ v46 _=>m2 - (intOf v46).toNat)
     case atStart=>exact⟨0,ws,X,_,_,rfl,rfl,Nat.zero_le _,rfl,HW3.out,HJ3.out⟩
     case round =>
      obtain⟨j,ws',X',a',c',rfl,rfl,hj,hws,hw,hJ⟩:=hrel
      by_cases EJ:j<m2
      ·have hjl:j<L.length:=by rw[ZV.out];exact EJ
       obtain⟨ob,oo,_,_,_,hoa,hox⟩:=((HOO.out wr hw.keep).1).dG
       obtain rfl:=hoa j hjl
       have c0:=hox j hjl wr (Below.refl _ _)
       have hob:=World.block_lt_of_cell? wr _ c0
       have htn:L[j]<n:=adv.out _ (List.getElem_mem hjl)
       have hws2:lF (L.take (j+1)) ws=if ws'.contains L[j] then ws' else ws'++[L[j]]:=by rw[List.take_succ_eq_append_getElem hjl,GI,←hws];rfl
       generalize L[j]=t at *
       have hsl:=qC n ws'
       have hnd':ws'.Nodup:=by rw[hws];exact yt _ _ ahR.out
       have hlt':∀ x∈ws',x<n:=fun x hx=>by
        rw[hws,uV] at hx
        exact hx.elim (ahS.out x) fun hx=>adv.out x (List.mem_of_mem_take hx)
       have ap2:=nodup_lt_length n ws' hnd' hlt'
       obtain⟨g1,g2,g3,g4⟩:=hw.there.cellAt (i:=t) (j:=0) (by rw[hsl];exact htn) (by decide)
       rw[show t*1+0=t by omega] at g1 g2
       have g1':wr.cell? ⟨W.heap.size,t,none⟩=some (.bool (ws'.contains t)):=by rw[g1,EI];rfl
       have hji:(j:Int)<(m2:Int):=by omega
       have hj0:(0:Int)≤(j:Int):=by omega
       have ht0:(0:Int)≤(t:Int):=by omega
       have hti:(t:Int)<(n:Int):=by omega
       clear g1 hnd' hlt'
       cases hct:ws'.contains t with
       | true =>
        rw[hct] at g1'
        rw[hct,if_pos rfl] at hws2
        have HW4:=ah hw;have HJ4:=ah hJ;have HWS:=ah hws2
        clear hw hJ hws hws2 hct
        go_wp2
        exact⟨⟨j+1,ws',X',a',c',rfl,by push_cast;rfl,EJ,HWS.out.symm,HW4.out,HJ4.out⟩,by simp[intOf];omega⟩
       | false =>
        rw[hct] at g1'
        rw[hct,if_neg (by simp)] at hws2
        obtain⟨m1,m3⟩:=hw.mark htn
        have hj2:=WI.out _ _ _ _ _ _ hJ m3
        have hB1:=aj (wr.setCell ⟨W.heap.size,t,none⟩ (.bool true)) (.cells #[.int .i64 t] 3)
        have ho1:=m1.waits.kept hB1
        have hbs:=m1.size.1
        have HM:=ah m1;have HJM:=ah hj2;have HWS:=ah hws2;have HB:=ah hB1;have Si:=ah hbs
        clear hw hJ hws hws2 hct m1 m3 hj2 hB1 hbs
        go_wp2_with (at_builtin;go_must (refine fA rfl _ _ 24 rfl jl dR rfl ho1 ⟨wr.heap.size,0,none⟩ 1 t rfl (by rw[←World.size_setCell wr ⟨W.heap.size,t,none⟩ (.bool true)];exact dA _ [.int .i64 (t:Nat)] _) (by simp only[maxLen];omega) (by omega) (by rw[World.size_alloc];have:=Si.out;omega) ?_;intro a7 c7 w7 iF cZ um))
        obtain⟨m4,m5⟩:=HM.out.wait HB.out iF cZ um
        have hj7:=WI.out _ _ _ _ _ _ HJM.out m5
        exact⟨⟨j+1,ws'++[t],_,a7,c7,by rw[List.length_append];rfl,by push_cast;rfl,EJ,HWS.out.symm,by rw[List.length_append];exact m4,hj7⟩,by simp[intOf];omega⟩
      ·obtain rfl:j=m2:=by omega
       rw[←ZV.out,List.take_length] at hws
       have hpre:=GK L ws
       rw[←hws] at hpre
       have htk:ws.take (i+1)=ws'.take (i+1):=by
        obtain⟨z,rfl⟩:=hpre
        rw[List.take_append_of_le_length (by omega)]
       have hle:=hpre.length_le
       have hnd':ws'.Nodup:=by rw[hws];exact yt _ _ ahR.out
       have hlt':∀ x∈ws',x<n:=fun x hx=>by
        rw[hws,uV] at hx
        exact hx.elim (ahS.out x) fun hx=>adv.out x hx
       have gQ:=HR2.out
       rw[←hws] at gQ
       rw[htk] at hJ
       have HW4:=ah hw;have HJ4:=ah hJ;have amh:=ah hnd';have ami:=ah hlt';have HR4:=ah gQ
       clear hw hJ hws hpre htk hnd' hlt' gQ
       go_wp2
       refine wW _ _ ?_
       go_wp2
       exact⟨⟨f,i+1,ws',X',a',c',rfl,by push_cast;rfl,by omega,HW4.out,HJ4.out,HR4.out,by omega,amh.out,ami.out⟩,by simp[intOf];omega⟩
    ·obtain rfl:i=ws.length:=by omega
     rw[List.take_length] at hj
     have hRR:nG on f ws.length ws=ws:=by
      cases f with
      | zero=>rfl
      | succ f=>rw[nG,List.getElem?_eq_none (Nat.le_refl _)]
     rw[hRR] at hr
     go_wp2
     go_end0
     exact⟨⟨_,rfl⟩,X,by rw[hr,←HR.out] at hj;exact hj⟩
end
end Go.Proofs.YtaoinbjjolikhaaGreatDoor
