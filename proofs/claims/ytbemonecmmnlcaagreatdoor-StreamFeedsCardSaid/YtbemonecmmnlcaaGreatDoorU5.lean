/- The texts of T5, in few letters (mini.py). -/
import Derived.Test.YtbemonecmmnlcaaGreatDoorU4
set_option linter.unusedVariables false
set_option linter.unusedSimpArgs false
set_option maxHeartbeats 1600000
set_option maxRecDepth 20000
namespace Go.Proofs.YtbemonecmmnlcaaGreatDoor
section
open Go.RowKit
def mix(s t:aA)(j:Nat):aA:=zO (if 0<j then word t 0 else word s 0) (if 1<j then word t 1 else word s 1) (if 2<j then word t 2 else word s 2) (if 3<j then word t 3 else word s 3)
theorem xw(s t:aA)(j k:Nat)(hk:k<4):word (mix s t j) k=if k<j then word t k else word s k:=by
 unfold mix
 have hm:∀ i,(if i<j then word t i else word s i) % 2 ^ 64=if i<j then word t i else word s i:=fun i=>Nat.mod_eq_of_lt (by split <;> exact word_lt _ _)
 obtain⟨e0,e1,e2,e3⟩:=QG (if 0<j then word t 0 else word s 0) (if 1<j then word t 1 else word s 1) (if 2<j then word t 2 else word s 2) (if 3<j then word t 3 else word s 3)
 match k,hk with
 | 0,_=>rw[e0,hm 0]
 | 1,_=>rw[e1,hm 1]
 | 2,_=>rw[e2,hm 2]
 | 3,_=>rw[e3,hm 3]
theorem acN(s t:aA):mix s t 0=s:=word_inj fun i hi=>by rw[xw _ _ _ _ hi,if_neg (by omega)]
theorem acO(s t:aA):mix s t 4=t:=word_inj fun i hi=>by rw[xw _ _ _ _ hi,if_pos hi]
theorem acP(s t:aA)(j:Nat)(hj:j<4):(eY (mix s t j)).setIfInBounds j (.int .u64 (word t j:Nat))=eY (mix s t (j+1)):=by
 have h:=acu (mix s t j) (mix s t (j+1)) j hj fun i hi hne=>by
  rw[xw _ _ _ _ hi,xw _ _ _ _ hi]
  by_cases h:i<j
  ·rw[if_pos h,if_pos (by omega)]
  ·rw[if_neg h,if_neg (by omega)]
 rwa[xw _ _ _ _ hj,if_pos (by omega)] at h
theorem Box.mix{w:World}{b E:Nat}{s t:aA}{j:Nat}(h:Box w b (eY (mix s t j)) E)(hj:j<4)(v:Value)(hv:v=.int .u64 (word t j:Nat)):Box (w.setCell ⟨b,j,none⟩ v) b (eY (Proofs.YtbemonecmmnlcaaGreatDoor.mix s t (j+1))) E:=by
 subst hv
 rw[←acP s t j hj]
 exact h.set j _
theorem Box.am2{w:World}{b E:Nat}{s t:aA}{j:Nat}(h:Box w b (eY (Proofs.YtbemonecmmnlcaaGreatDoor.mix s t j)) E)(hj:j<4):w.cell? ⟨b,j,none⟩=some (.int .u64 (word s j:Nat)):=by
 have:=h.amZ hj
 rwa[xw _ _ _ _ hj,if_neg (by omega)] at this
theorem Fj(s:aA)(j:Nat)(h:j<4)(w:World):(Instr.index 149 (.agg #[.int .u64 (word s 0:Nat),.int .u64 (word s 1:Nat),.int .u64 (word s 2:Nat),.int .u64 (word s 3:Nat)]) (.int .i64 (j:Nat))).run Tryz.prog w=.ok (.int .u64 (word s j:Nat)) w:=by
 have i0:(Instr.index 149 (.agg #[.int .u64 (word s 0:Nat),.int .u64 (word s 1:Nat),.int .u64 (word s 2:Nat),.int .u64 (word s 3:Nat)]) (.int .i64 (0:Nat))).run Tryz.prog w=.ok (.int .u64 (word s 0:Nat)) w:=by kernel_rfl
 have i1:(Instr.index 149 (.agg #[.int .u64 (word s 0:Nat),.int .u64 (word s 1:Nat),.int .u64 (word s 2:Nat),.int .u64 (word s 3:Nat)]) (.int .i64 (1:Nat))).run Tryz.prog w=.ok (.int .u64 (word s 1:Nat)) w:=by kernel_rfl
 have i2:(Instr.index 149 (.agg #[.int .u64 (word s 0:Nat),.int .u64 (word s 1:Nat),.int .u64 (word s 2:Nat),.int .u64 (word s 3:Nat)]) (.int .i64 (2:Nat))).run Tryz.prog w=.ok (.int .u64 (word s 2:Nat)) w:=by kernel_rfl
 have i3:(Instr.index 149 (.agg #[.int .u64 (word s 0:Nat),.int .u64 (word s 1:Nat),.int .u64 (word s 2:Nat),.int .u64 (word s 3:Nat)]) (.int .i64 (3:Nat))).run Tryz.prog w=.ok (.int .u64 (word s 3:Nat)) w:=by kernel_rfl
 match j,h with
 | 0,_=>exact i0
 | 1,_=>exact i1
 | 2,_=>exact i2
 | 3,_=>exact i3
theorem acQ(s x:aA)(j:Nat):bits BinOp.or IntKind.u64 (word s j:Nat) (word x j:Nat)=((word (s ||| x) j:Nat):Int):=by
 rw[agj,bits_or_u64_nat _ _ (word_lt _ _) (word_lt _ _)]
theorem XF(a:Option Addr)(cap:Nat)(l:List aA)(w:World)(h:ak w (.slice a l.length cap) 4 encS l) :
  Calls Tryz.prog 199 #[.slice a l.length cap] w (bM w (oh (l.foldl (· ||| ·) 0))):=by
 obtain⟨b,o,hlen,hcap,hcap',ha,hbl,hcell⟩:=h.sets
 clear hlen h hbl
 have HC:=ah hcell
 clear hcell
 go_enter Tryz.func199,Tryz.ntmps199
 go_wp2
 go_loopw [10] (fun i wr=>∃ j:Nat,j≤l.length∧i=.int .i64 j∧Box wr w.heap.size (eY 0) 149∧Box wr (w.heap.size+1) (eY ((l.take j).foldl (· ||| ·) 0)) 149∧Below w.heap.size w wr) (fun i _=>l.length - (intOf i).toNat)
 case atStart =>
  refine⟨0,Nat.zero_le _,rfl,?_,?_,by go_grown⟩
  ·rw[lI];exact(Box.new' rfl _ _).alloc _
  ·rw[List.take_zero,List.foldl_nil,lI];exact Box.new' (by simp) _ _
 case round =>
  obtain⟨j,hj,rfl,h0,hb,hB⟩:=hrel
  by_cases hlt:j<l.length
  ·have hdj:decide ((j:Int)<(l.length:Int))=true:=decide_eq_true (by omega)
   obtain rfl:=ha j hlt
   obtain⟨c0,c1,c2,c3⟩:=HC.out j hlt wr hB
   have e2:(l.take (j+1)).foldl (· ||| ·) 0=(l.take j).foldl (· ||| ·) 0 ||| l[j]:=by rw[List.take_succ_eq_append_getElem hlt,List.foldl_append];rfl
   have HE:=ah e2
   clear e2
   generalize l[j]=x at *
   generalize (l.take j).foldl (· ||| ·) 0=s at *
   have hop:=acQ s x
   generalize s ||| x=t at *
   have hs0:=h0.lt
   have hs1:=hb.lt
   go_wp2
   go_loopw [15] (fun i wr=>∃ k:Nat,k≤4∧i=.int .i64 k∧Box wr w.heap.size (eY 0) 149∧Box wr (w.heap.size+1) (eY (mix s t k)) 149∧Below w.heap.size w wr) (fun i _=>4 - (intOf i).toNat)
   case atStart=>exact⟨0,Nat.zero_le _,rfl,h0.alloc _,by rw[acN];exact hb.alloc _,by go_grown⟩
   case round =>
    obtain⟨k,hk,rfl,h0,hb,hB⟩:=hrel
    by_cases hlt2:k<4
    ·have gw:=Fj x k hlt2
     have hc:=hb.am2 hlt2
     have hf:=hb.free k
     have hv:=hop k
     go_wp2
     go_roundw
     case rel=>exact⟨k+1,hlt2,by go_num,h0.other _ _ (by simp),hb.mix hlt2 _ rfl,by go_grown⟩
     case measure=>simp[intOf];omega
    ·obtain rfl:k=4:=by omega
     rw[acO] at hb
     go_wp2
     go_roundw
     case rel=>exact⟨j+1,hlt,by go_num,h0,by rw[HE.out];exact hb,hB⟩
     case measure=>simp[intOf];omega
  ·obtain rfl:j=l.length:=by omega
   rw[List.take_length] at hb
   obtain⟨⟨p0,p1,p2,p3⟩,⟨q0,q1,q2,q3⟩⟩:=h0.BP
   obtain⟨⟨r0,r1,r2,r3⟩,_⟩:=hb.BP
   go_wp2
   exact fU Tryz.results199 rfl (h0.zW rfl _ _ _ _) Tryz.underlying149 rfl (by kernel_rfl) rfl ⟨rfl,by go_grown⟩
end
section
open Go.RowKit
def Nf.goes(y:Nf)(s:Nat):List Nat:=(y.links.filter fun l=>l.1==s).map (·.2)
def Nf.out(y:Nf)(s:Nat):List (Nat×aA×Nat):=y.edges.filter fun e=>e.1==s
def gq(y:Nf)(l:List Nat):List Nat:=gY y.states (qW y.states y.goes (y.states+1) (l.foldl (jy y.states) (0,[])))
def iy(y:Nf)(l:List Nat)(b:Nat):List Nat:=gq y (l.flatMap fun s=>((y.out s).filter fun e=>mem e.2.1 b).map (·.2.2))
theorem JC(n:Nat)(l:List Nat)(st:Nat×List Nat)(h:st.1<2 ^ n):(l.foldl (jy n) st).1<2 ^ n:=by
 induction l generalizing st with
 | nil=>exact h
 | cons a l ih=>rw[List.foldl_cons];exact ih _ (agm n st a h)
theorem Fp(n:Nat)(goes:Nat→List Nat):∀ (f:Nat) (st:Nat×List Nat),st.1<2 ^ n→qW n goes f st<2 ^ n
 | 0,st,h=>h
 | f+1,st,h=>by
  rw[qW]
  split
  ·exact h
  ·exact Fp n goes f _ (JC n _ _ h)
theorem acR(n:Nat)(st:Nat×List Nat)(s:Nat)(h:∀ x∈st.2,x<n):∀ x∈(jy n st s).2,x<n:=by
 unfold jy
 split
 ·rename_i h1
  intro x hx
  rcases List.mem_append.1 hx with hx | hx
  ·exact h x hx
  ·simp at hx;omega
 ·exact h
theorem OU(n:Nat)(l:List Nat)(st:Nat×List Nat)(h:∀ x∈st.2,x<n):∀ x∈(l.foldl (jy n) st).2,x<n:=by
 induction l generalizing st with
 | nil=>exact h
 | cons a l ih=>rw[List.foldl_cons];exact ih _ (acR n st a h)
theorem KU{α β:Type}(f:β→α→β)(l:List α)(z:β)(k:Nat)(h:k<l.length):(l.take (k+1)).foldl f z=f ((l.take k).foldl f z) l[k]:=by
 rw[List.take_succ_eq_append_getElem h,List.foldl_append];rfl
theorem OV{α β:Type}(f:β→α→β)(l:List α)(z:β):(l.take l.length).foldl f z=l.foldl f z:=by rw[List.take_length]
end
section
open Go.RowKit
theorem JD:eu Tryz.prog 227 149 (.agg #[.int .u64 0,.int .u64 0,.int .u64 0,.int .u64 0]) 4 32 :=
 ⟨Tryz.underlying227,info_parts (by kernel_rfl),rfl,by decide⟩
end
section
open Go.RowKit
theorem ZL(L:List aA)(i:Nat)(h:i<L.length)(c:Nat):vP (L.take (i+1)) c=if mem L[i] c then i else vP (L.take i) c:=by
 rw[List.take_succ_eq_append_getElem h,OM,List.length_take,Nat.min_eq_left (Nat.le_of_lt h)]
def acS(L:List aA)(w wr:World)(i:Value):Prop :=
 ∃ k:Nat,k≤L.length∧i=.int .i64 k∧Box wr w.heap.size (aP fun _=>0) 22∧Box wr (w.heap.size+1) (aP (vP (L.take k))) 22∧Below w.heap.size w wr
def acT(L:List aA)(k:Nat)(w wr:World)(c:Value):Prop :=
 ∃ n:Nat,n≤256∧c=.int .i64 n∧Box wr w.heap.size (aP fun _=>0) 22∧Box wr (w.heap.size+1) (aP fun d=>if d<n then vP (L.take (k+1)) d else vP (L.take k) d) 22∧Below w.heap.size w wr
theorem acU{F G:Nat→Nat}{n v:Nat}(h:v=G n):∀ d,d<256→(if d=n then v else if d<n then G d else F d)=if d<n+1 then G d else F d:=by
 intro d _
 by_cases h1:d=n
 ·subst h1;simp[h]
 ·by_cases h2:d<n
  ·simp[h1,h2,show d<n+1 by omega]
  ·simp[h1,h2,show ¬ d<n+1 by omega]
theorem acV{F G:Nat→Nat}{n:Nat}(h:G n=F n):∀ d,d<256→(if d<n then G d else F d)=if d<n+1 then G d else F d:=by
 intro d _
 by_cases h1:d=n
 ·subst h1;simp[h]
 ·by_cases h2:d<n
  ·simp[h2,show d<n+1 by omega]
  ·simp[h2,show ¬ d<n+1 by omega]
theorem U2(a:Option Addr)(cap:Nat)(L:List aA)(w:World)(h:ak w (.slice a L.length cap) 4 encS L)(hL:L.length≤256) :
  Calls Tryz.prog 160 #[.slice a L.length cap] w (bM w (.tuple #[.agg (aP (vP L)),.int .i64 (L.length:Nat)])):=by
 obtain⟨b,o,hlen,hcap,hcap',ha,hbl,hcell⟩:=h.sets
 clear hlen h hbl
 have HC:=ah hcell
 clear hcell
 have hz:=kE
 have hbd:(Program.built Tryz.prog 22 [])=some (aP fun _=>0):=by kernel_rfl
 go_enter Tryz.func160,Tryz.ntmps160
 go_wp2_with (refine dV rfl 22 (.tmp 4) (.tmp 7) rfl _ _ rfl rfl (by simp) (aV _) (kW _ _) (gX _) ?_)
 go_loopw [5] (fun i wr=>acS L w wr i) (fun i _=>L.length - (intOf i).toNat)
 case atStart=>exact⟨0,Nat.zero_le _,rfl,(Box.new' rfl _ _).alloc _,Box.new' (World.size_alloc _ _).symm _ _,by go_grown⟩
 case round =>
  obtain⟨k,hk,rfl,hb0,hb1,hB⟩:=hrel
  by_cases hlt:k<L.length
  ·obtain rfl:=ha k hlt
   have hd:decide ((k:Int)<(L.length:Int))=true:=by simp;omega
   go_wp2
   clear hd
   go_loopw [6] (fun c w2=>acT L k w w2 c) (fun c _=>256 - (intOf c).toNat)
   case atStart=>exact⟨0,Nat.zero_le _,rfl,hb0,by rw[dY (g:=vP (L.take k)) (fun i _=>by simp)];exact hb1,hB⟩
   case round =>
    obtain⟨n,hn,rfl,hc0,hc1,hB2⟩:=hrel
    by_cases hn2:n<256
    ·obtain⟨c0,c1,c2,c3⟩:=HC.out k hlt _ hB2
     have hnt:=ZL L k hlt n
     have HN:=ah hnt
     have hwr:=nI k (by omega)
     clear hnt
     cases hm:mem L[k] n with
     | true =>
      have HM:=ah hm
      go_wp2_with (go_at_call 205;go_must (refine(VR _ _ _ hn2).mono ?_;rintro e w3 ⟨rfl,hB3⟩;rw[HM.out];have hB4:=hB2.trans (hB3.mono hB2.size);have hx0:=hc0.kept hB3;have hx1:=hc1.kept hB3;have hf:=hx1.free n;have hc:=(hx1.cell n).trans (dX _ n hn2)))
      go_roundw
      case rel =>
       refine⟨n+1,hn2,by go_num,hx0.other _ _ (by simp),?_,by go_grown⟩
       have:=hx1.set n (.int .u8 (k:Nat))
       rw[uQ,dY (acU (by rw[HN.out,HM.out];rfl))] at this
       exact this
      case measure=>simp[intOf];omega
     | false =>
      have HM:=ah hm
      go_wp2_with (go_at_call 205;go_must (refine(VR _ _ _ hn2).mono ?_;rintro e w3 ⟨rfl,hB3⟩;rw[HM.out];have hB4:=hB2.trans (hB3.mono hB2.size);have hx0:=hc0.kept hB3;have hx1:=hc1.kept hB3))
      go_roundw
      case rel =>
       refine⟨n+1,hn2,by go_num,hx0,?_,hB4⟩
       rw[dY (acV (by rw[HN.out,HM.out];rfl))] at hx1
       exact hx1
      case measure=>simp[intOf];omega
    ·obtain rfl:n=256:=by omega
     go_wp2
     go_roundw
     case rel =>
      refine⟨k+1,hlt,by go_num,hc0,?_,hB2⟩
      rw[dY (g:=vP (L.take (k+1))) (fun i hi=>if_pos hi)] at hc1
      exact hc1
     case measure=>simp[intOf];omega
  ·obtain rfl:k=L.length:=by omega
   rw[List.take_length] at hb1
   go_wp2_with (first | (refine wpList_load_row rfl 22 (.tmp 4) rfl _ rfl _ _ _ _ hb1 Tryz.underlying22 rfl (aV _) ?_) | (refine wpList_store_row rfl 22 (.tmp 2) (.tmp 28) rfl w.heap.size _ rfl rfl _ _ hb0 (aV _) (kW _ _) (gX _) ?_))
   exact gy Tryz.results160 rfl rfl (hb0.setRow _) Tryz.underlying22 rfl (aV _) rfl ⟨rfl,below_setRow hB (Nat.le_refl _) _⟩
end
section
open Go.RowKit
def mP(g:Nat→Bool):Array Value:=((List.range 256).map fun i=>Value.bool (g i)).toArray
theorem qZ(g:Nat→Bool):(mP g).size=256:=by simp[mP]
theorem XG(f g:Nat→Bool):(mP f).size=(mP g).size:=by rw[qZ,qZ]
theorem JE(g:Nat→Bool)(i:Nat)(h:i<256):(mP g)[i]?=some (.bool (g i)):=by simp[mP,h]
theorem D6{f g:Nat→Bool}(h:∀ i,i<256→f i=g i):mP f=mP g:=by
 have e:((List.range 256).map fun i=>Value.bool (f i))=((List.range 256).map fun i=>Value.bool (g i)):=List.map_congr_left fun i hi=>by rw[h i (by simpa using hi)]
 unfold mP;rw[e]
theorem acW(g:Nat→Bool)(k:Nat)(v:Bool):(mP g).setIfInBounds k (.bool v)=mP (fun i=>if i=k then v else g i):=by
 apply Array.ext_getElem?
 intro i
 rw[Array.getElem?_setIfInBounds]
 by_cases hi:i<256
 ·rw[JE _ i hi,JE _ i hi,qZ]
  by_cases hk:k=i
  ·subst hk;simp[hi]
  ·have:¬ i=k:=fun e=>hk e.symm
   simp[hk,this]
 ·have h1:(mP fun i=>if i=k then v else g i)[i]?=none:=by rw[Array.getElem?_eq_none];rw[qZ];omega
  have h2:(mP g)[i]?=none:=by rw[Array.getElem?_eq_none];rw[qZ];omega
  rw[h1,h2,qZ]
  by_cases hk:k=i
  ·simp[hk,hi]
  ·simp[hk]
theorem acX(g:Nat→Bool):(mP g).all (·.oneCell')=true:=by
 rw[Array.all_eq_true_iff_forall_mem]
 intro v hv
 simp only[mP,List.mem_toArray,List.mem_map] at hv
 obtain⟨x,_,rfl⟩:=hv
 rfl
theorem Q9(f:Nat→Nat)(a b:Nat):aX (bJ f) a b=true↔f a=f b:=by
 have:(bJ f a=bJ f b)↔f a=f b:=by unfold bJ;omega
 rw[←this];simp[aX]
theorem acY{f:Nat→Nat}(n m:Nat):(aJ (aX (bJ f)) n).any (aX (bJ f) m)=(List.range n).any fun d=>f d==f m:=by
 have E:=o7 (bJ f)
 have hK:∀ a b,aX (bJ f) a b=true↔f a=f b:=fun a b=>Q9 f a b
 rw[Bool.eq_iff_iff,List.any_eq_true,List.any_eq_true]
 constructor
 ·rintro⟨c,hc,h⟩
  exact⟨c,by simpa using lU _ n c hc,by rw[beq_iff_eq];exact((hK _ _).1 h).symm⟩
 ·rintro⟨d,hd,h⟩
  obtain⟨c,hc,h2⟩:=List.any_eq_true.1 (xg E.refl (show d<n by simpa using hd))
  exact⟨c,hc,E.trans ((hK _ _).2 (beq_iff_eq.1 h).symm) h2⟩
theorem acZ{f:Nat→Nat}{n:Nat}(h:((List.range n).any fun d=>f d==f n)=false):(yB fun e=>decide (n≤e)&&(decide (e<256)&&(f e==f n)))=cls (aX (bJ f)) 256 n:=by
 refine sH fun d hd=>?_
 rw[wY,sQ]
 have hK:aX (bJ f) n d=(f d==f n):=by rw[Bool.eq_iff_iff,Q9,beq_iff_eq];exact⟨fun h=>h.symm,fun h=>h.symm⟩
 rw[hK]
 by_cases hnd:n≤d
 ·simp[hd,hnd]
 ·have:=List.any_eq_false.1 h d (by simp;omega)
  have h2:(f d==f n)=false:=by simpa using this
  rw[h2];simp
theorem ZM(f:Nat→Nat)(n v:Nat):(if v=f n then true else (List.range n).any fun d=>f d==v)=(List.range (n+1)).any fun d=>f d==v:=by
 rw[List.range_succ,List.any_append]
 by_cases h:v=f n
 ·subst h;simp
 ·have h3:(f n==v)=false:=by rw[beq_eq_false_iff_ne];exact fun e=>h e.symm
  rw[if_neg h,List.any_cons,List.any_nil,h3];simp
attribute [irreducible] mP
theorem OW:(Tryz.prog.info? 291).map (fun i=>(i.zero,i.size))=some (some (.agg (mP fun _=>false)),256):=by kernel_rfl
theorem ZN(f:Nat→Bool):(Tryz.prog.info? 291).map (·.size)=some (mP f).size:=by rw[qZ];exact(zero_of_info OW).2
def ZO(f:Nat→Nat)(w wr:World)(v i:Value):Prop :=
 ∃ (n:Nat) (a':Option Addr) (cap':Nat),n≤256∧i=.int .i64 n∧v=.slice a' (aJ (aX (bJ f)) n).length cap'∧Box wr w.heap.size (aP f) 22∧Box wr (w.heap.size+1+1) (mP fun v=>(List.range n).any fun d=>f d==v) 291 ∧
  Own wr (w.heap.size+1) 149 4 encS (.slice a' (aJ (aX (bJ f)) n).length cap') ((aJ (aX (bJ f)) n).map (cls (aX (bJ f)) 256))∧Below w.heap.size w wr
def ZP(f:Nat→Nat)(n q:Nat)(W0 w2:World)(d:Value):Prop :=
 ∃ k:Nat,n≤k∧k≤256∧d=.int .i64 k∧Box w2 q (eY (yB fun e=>decide (n≤e)&&(decide (e<k)&&(f e==f n)))) 149∧Below q W0 w2∧q<w2.heap.size
theorem XH(f:Nat→Nat)(hf:∀ b,f b<256)(w:World) :
  Calls Tryz.prog 157 #[.agg (aP f)] w (gV w 149 4 encS ((aJ (aX (bJ f)) 256).map (cls (aX (bJ f)) 256))):=by
 have hz:=kE
 have hzb:∀ w,(zeroValue 291).run Tryz.prog w=.ok (.agg (mP fun _=>false)) w:=(zero_of_info OW).1
 have hbd:(Program.built Tryz.prog 291 [])=some (mP fun _=>false):=by kernel_rfl
 go_enter Tryz.func157,Tryz.ntmps157
 go_wp2_with (refine dV rfl 291 (.tmp 4) (.tmp 9) rfl _ _ rfl rfl (by simp) (ZN _) (XG _ _) (acX _) ?_)
 go_loopw [3,5] (fun v i wr=>ZO f w wr v i) (fun _ i _=>256 - (intOf i).toNat)
 case atStart =>
  refine⟨0,some ⟨w.heap.size+1,0,none⟩,0,Nat.zero_le _,rfl,by rw[OI];rfl,((Box.new' rfl _ _).alloc _).alloc _,?_,?_,by go_grown⟩
  ·rw[D6 (g:=fun _=>false) (fun i _=>by simp)];exact Box.new' (by simp) _ _
  ·rw[OI]
   have:=(Own.empty (w.alloc (.cells (aP f) 22)) (w.heap.size+1) 149 4 encS (by simp)).alloc (.cells (mP fun _=>false) 291)
   rw[World.size_alloc] at this;exact this
 case round =>
  obtain⟨n,a',cap',hn,rfl,rfl,hb0,hb1,hown,hB⟩:=hrel
  by_cases hlt:n<256
  ·have c0:=(hb0.cell n).trans (dX _ n hlt)
   have hfn:=hf n
   have c1:=(hb1.cell (f n)).trans (JE _ (f n) hfn)
   have hlen:=jW (aX (bJ f)) n
   have hany:=acY (f:=f) n n
   cases hd:((List.range n).any fun d=>f d==f n) with
   | true =>
    rw[hd] at c1 hany
    have e1:aJ (aX (bJ f)) (n+1)=aJ (aX (bJ f)) n:=by rw[jD,if_pos hany]
    have HE:=ah e1
    have HD:=ah hd
    clear e1 hany hd
    go_wp2
    go_roundw
    case rel =>
     refine⟨n+1,a',cap',hlt,by go_num,by rw[HE.out],hb0,?_,by rw[HE.out];exact hown,hB⟩
     rw[D6 (g:=fun v=>(List.range n).any fun d=>f d==v) (fun v hv=>?_)]
     ·exact hb1
     ·rw[List.range_succ,List.any_append]
      by_cases hv2:f n=v
      ·subst hv2;simp only[HD.out];rfl
      ·simp[hv2]
    case measure=>simp[intOf];omega
   | false =>
    rw[hd] at c1 hany
    have e1:aJ (aX (bJ f)) (n+1)=aJ (aX (bJ f)) n++[n]:=by rw[jD,hany];rfl
    have e2:=acZ hd
    have HE:=ah e1
    have HC:=ah e2
    have f1:=hb1.free (f n)
    have hdd:decide ((n:Int)<256)=true:=by simp;omega
    clear e1 e2 hany hd
    go_wp2
    have hsz:(wr.setCell ⟨w.heap.size+1+1,f n,none⟩ (.bool true)).heap.size=wr.heap.size:=World.size_setCell _ _ _
    have XE:=hb0.other ⟨w.heap.size+1+1,f n,none⟩ (.bool true) (by simp;omega)
    have hb1':=hb1.set (f n) (.bool true)
    rw[acW,D6 (g:=fun v=>(List.range (n+1)).any fun d=>f d==v) (fun v _=>ZM f n v)] at hb1'
    have hown':=hown.yC hb1 (by decide) (f n) (.bool true)
    have hB':=hB.setCell (p:=⟨w.heap.size+1+1,f n,none⟩) (by simp;omega) (.bool true)
    have hq0:=hb1.lt
    generalize wr.setCell ⟨w.heap.size+1+1,f n,none⟩ (.bool true)=W0 at *
    have KW:=ah hsz
    obtain⟨q,hq⟩:∃ q,wr.heap.size=q:=⟨_,rfl⟩
    rw[hq] at hsz hq0 ⊢
    have hqw:w.heap.size+1+1<q:=by omega
    clear hb0 hb1 hown hB c0 c1 f1 hq KW
    go_loopw [7] (fun d w2=>ZP f n q W0 w2 d) (fun d _=>256 - (intOf d).toNat)
    case atStart =>
     refine⟨n,Nat.le_refl _,hn,rfl,?_,(Below.refl _ _).alloc (by omega) _,by simp;omega⟩
     rw[show(yB fun e=>decide (n≤e)&&(decide (e<n)&&(f e==f n)))=0 from(ahi 0 _ fun b _=>by rw[Js];by_cases h:n≤b <;> simp[h];omega).symm,lI]
     exact Box.new' hsz.symm _ _
    case round =>
     obtain⟨k,hnk,hk,rfl,hs,hb,hq2⟩:=hrel
     have hx0:=XE.below hb (by omega)
     by_cases hk2:k<256
     ·have d0:=(hx0.cell k).trans (dX _ k hk2)
      have d1:=(hx0.cell n).trans (dX _ n hlt)
      obtain⟨⟨r0,r1,r2,r3⟩,_⟩:=hs.BP
      by_cases hkn:f k=f n
      ·have hbe:((f k:Int)==(f n:Int))=true:=by rw[beq_iff_eq,hkn]
       have es:(yB fun e=>decide (n≤e)&&(decide (e<k+1)&&(f e==f n)))=nU (yB fun e=>decide (n≤e)&&(decide (e<k)&&(f e==f n))) k:=by
        rw[Zu _ _ hk2]
        refine OE fun b _=>?_
        by_cases h1:k=b
        ·subst h1;simp[hnk,hkn]
        ·have:decide (b<k+1)=decide (b<k):=by rw[decide_eq_decide];omega
         simp[h1,this]
       have HES:=ah es
       have HB:=ah hbe
       clear es hkn
       go_wp2_with fail
       go_region
       go_wp2_with (go_at_call 204;go_must (refine(acL _ _ _ hk2).mono ?_;rintro e w5 ⟨rfl,kM⟩;have hs5:=hs.drew.kept kM;obtain⟨⟨t0,t1,t2,t3⟩,⟨g0,g1,g2,g3⟩⟩:=hs5.BP;have uX:=hb.drew.trans (kM.mono (Nat.le_of_lt hq2));have hq5:q<w5.heap.size:=Nat.lt_of_lt_of_le hq2 kM.size))
       go_roundw
       case rel=>exact⟨k+1,by omega,hk2,by go_num,by rw[HES.out];exact hs5.zW rfl _ _ _ _,by go_grown,by simp;exact hq5⟩
       case measure=>simp[intOf];omega
      ·have hbe:((f k:Int)==(f n:Int))=false:=by rw[beq_eq_false_iff_ne];omega
       have es:(yB fun e=>decide (n≤e)&&(decide (e<k+1)&&(f e==f n)))=(yB fun e=>decide (n≤e)&&(decide (e<k)&&(f e==f n))):=by
        refine OE fun b _=>?_
        by_cases h1:b=k
        ·subst h1;simp[hkn]
        ·have:decide (b<k+1)=decide (b<k):=by rw[decide_eq_decide];omega
         simp[this]
       have HES:=ah es
       have HB:=ah hbe
       clear es hkn
       go_wp2_with fail
       go_region
       go_wp2
       go_roundw
       case rel=>exact⟨k+1,by omega,hk2,by go_num,by rw[HES.out];exact hs.drew,hb.drew,hq2⟩
       case measure=>simp[intOf];omega
     ·obtain rfl:k=256:=by omega
      rw[show(yB fun e=>decide (n≤e)&&(decide (e<256)&&(f e==f n)))=cls (aX (bJ f)) 256 n from HC.out] at hs
      have hx1:=hb1'.below hb hqw
      have hown2:=hown'.kept (hsz▸hb)
      obtain⟨⟨r0,r1,r2,r3⟩,_⟩:=hs.BP
      have hB2:=hB'.trans (hb.mono (by omega))
      go_wp2_with (at_builtin;go_must (refine fG rfl _ _ 227 rfl JD wZ rfl (hown2.alloc _) ⟨wr.heap.size,0,none⟩ 1 (cls (aX (bJ f)) 256 n) rfl ?_ ?_ ?_ ?_ ?_))
      ·exact cu wr _ _
      ·simp[maxLen];omega
      ·simp;omega
      ·have:=hB2.size;simp;omega
      intro a2 cap2 w6 hown6 ac0
      have dG:=below_grown (hB2.alloc hB2.size _) (hown2.alloc _) ac0 (by omega) (by have:=hB2.size;simp;omega)
      have hy0:=(hx1.alloc (.cells (eY (cls (aX (bJ f)) 256 n)) 149)).iL (hown2.alloc _) ac0 (by decide)
      have hy1:=((XE.below hb (by omega)).alloc (.cells (eY (cls (aX (bJ f)) 256 n)) 149)).iL (hown2.alloc _) ac0 (by decide)
      go_wp2
      go_roundw
      case rel =>
       refine⟨n+1,a2,cap2,hlt,by go_num,?_,hy1,hy0,?_,dG⟩
       ·rw[HE.out];simp
       ·rw[HE.out,List.map_append]
        rw[List.length_append];simpa using hown6
      case measure=>simp[intOf];omega
  ·obtain rfl:n=256:=by omega
   go_wp2
   go_ret
   refine⟨a',cap',?_,?_,hB⟩
   ·rw[List.length_map];rfl
   ·rw[List.length_map];exact hown.mono (by omega)
end
section
open Go.RowKit
theorem KX(f:Nat→Nat)(hf:∀ b,f b<256)(w:World) :
  Calls Tryz.prog 119 #[.agg (aP f)] w (bM w (.tuple #[.agg (aP (bg (aX (bJ f)))),.int .i64 (iO (aX (bJ f)):Nat)])):=by
 have hz:=kE
 have E:=o7 (bJ f)
 obtain⟨L,hP,e1,e2⟩:∃ L:List aA,(∀ wx,Calls Tryz.prog 157 #[.agg (aP f)] wx (gV wx 149 4 encS L))∧aP (vP L)=aP (bg (aX (bJ f)))∧L.length=iO (aX (bJ f)):=by
  refine⟨_,fun wx=>XH f hf wx,dY fun c hc=>?_,by rw[List.length_map,nJ]⟩
  have:=QJ E hc _ (Nat.le_refl _)
  rw[List.take_length] at this
  rw[this,if_pos];have:=Hg E.refl hc;rwa[nJ] at this
 have H1:=ah e1
 have H2:=ah e2
 have HP:=ah hP
 have hle:=Hl (aX (bJ f))
 clear e1 e2 hP
 go_enter Tryz.func119,Tryz.ntmps119
 go_wp2_with (first | (refine wpList_load_row rfl 22 (.tmp 1) rfl _ rfl _ _ _ _ ((Box.new _ _ _).alloc _) Tryz.underlying22 rfl (aV _) ?_) | (refine wpList_store_row rfl 22 (.tmp 2) (.tmp 7) rfl (w.heap.size+1) _ rfl rfl _ _ hx0 (aV _) (kW _ _) (gX _) ?_) | (go_at_call 157;go_must (refine(HP.out _).mono ?_;rintro e w1 ⟨a1,cap1,rfl,hown,hB⟩)) | (go_at_call 160;go_must (refine(U2 a1 cap1 _ _ (hown.slice wZ) (by rw[H2.out];exact hle)).mono ?_;rintro e w2 ⟨rfl,hB2⟩;rw[H1.out,H2.out];have hx0:=((Box.new' (w:=w.alloc (.cells (aP f) 22)) (b:=w.heap.size+1) (by simp) (aP fun _=>0) 22).kept hB).kept hB2)))
 have hB3:=((((Below.refl w.heap.size w).alloc (Nat.le_refl _) (.cells (aP f) 22)).alloc (by simp) (.cells (aP fun _=>0) 22)).trans (hB.mono (by simp;omega))).trans (hB2.mono (by have:=hB.size;simp at this;omega))
 exact gy Tryz.results119 rfl rfl (hx0.setRow _) Tryz.underlying22 rfl (aV _) rfl ⟨rfl,below_setRow hB3 (by omega) _⟩
theorem U3(f:Nat→Nat)(hf:∀ b,f b<256)(n:Int)(w:World) :
  Calls Tryz.prog 78 #[.agg (aP f),.int .i64 n] w (bM w (.bool (kL (bg (aX (bJ f))) f&&((iO (aX (bJ f)):Nat)==n)))):=by
 have hz:=kE
 have hq:=OL (P:=Tryz.prog) (t:=22) (e:=5) Tryz.underlying22 Tryz.underlying5 (by kernel_rfl) (bg (aX (bJ f))) f
 have hsz:∀ w1:World,Below (w.alloc (.cells (aP f) 22)).heap.size (w.alloc (.cells (aP f) 22)) w1→Below w.heap.size w (w1.alloc (.cells (aP (bg (aX (bJ f)))) 22)):=fun w1 hB=>(((Below.refl w.heap.size w).alloc (Nat.le_refl _) _).trans (hB.mono (by go_size))).alloc (by have:=hB.size;simp at this;omega) _
 have HS:=ah hsz
 have HF:=ah hf
 clear hsz hf
 cases hs:kL (bg (aX (bJ f))) f with
 | true =>
  rw[hs] at hq
  clear hs
  go_enter Tryz.func78,Tryz.ntmps78
  go_wp2_with (first | (refine wpList_load_row rfl 22 (.tmp 2) rfl _ rfl _ _ _ _ (Box.new _ _ _) Tryz.underlying22 rfl (aV _) ?_) | (refine dV rfl 22 (.tmp 5) (.tmp 10) rfl _ _ rfl rfl rfl (aV _) (kW _ _) (gX _) ?_) | (go_at_call 119;go_must (refine(KX f HF.out _).mono ?_;rintro e w1 ⟨rfl,hB⟩;have hx0:=(Box.new w (aP f) 22).kept hB)) | (refine wpList_load_row rfl 22 (.tmp 5) rfl _ rfl _ _ _ _ (Box.new _ _ _) Tryz.underlying22 rfl (aV _) ?_) | (refine wpList_load_row rfl 22 (.tmp 2) rfl _ rfl _ _ _ _ (hx0.alloc _) Tryz.underlying22 rfl (aV _) ?_))
  go_ret
  exact⟨rfl,HS.out _ hB⟩
 | false =>
  rw[hs] at hq
  clear hs
  go_enter Tryz.func78,Tryz.ntmps78
  go_wp2_with (first | (refine wpList_load_row rfl 22 (.tmp 2) rfl _ rfl _ _ _ _ (Box.new _ _ _) Tryz.underlying22 rfl (aV _) ?_) | (refine dV rfl 22 (.tmp 5) (.tmp 10) rfl _ _ rfl rfl rfl (aV _) (kW _ _) (gX _) ?_) | (go_at_call 119;go_must (refine(KX f HF.out _).mono ?_;rintro e w1 ⟨rfl,hB⟩;have hx0:=(Box.new w (aP f) 22).kept hB)) | (refine wpList_load_row rfl 22 (.tmp 5) rfl _ rfl _ _ _ _ (Box.new _ _ _) Tryz.underlying22 rfl (aV _) ?_) | (refine wpList_load_row rfl 22 (.tmp 2) rfl _ rfl _ _ _ _ (hx0.alloc _) Tryz.underlying22 rfl (aV _) ?_))
  go_ret
  exact⟨rfl,HS.out _ hB⟩
end
section
open Go.RowKit
def lV(R:Nat→Nat→Bool)(n:Nat):List aA:=(aJ R 256).map (cls R n)
theorem mW(R:Nat→Nat→Bool)(n:Nat):(lV R n).length=iO R:=by rw[lV,List.length_map,nJ]
theorem U4(R:Nat→Nat→Bool):lV R 0=List.replicate (iO R) 0:=by
 rw[lV,nJ,←List.map_const']
 refine List.map_congr_left fun c _=>sH fun b hb=>?_
 rw[sQ,Js];simp
theorem U5{R:Nat→Nat→Bool}(E:yT R){n:Nat}(hn:n<256)(hk:bg R n<(lV R n).length) :
  lV R (n+1)=(lV R n).set (bg R n) ((lV R n)[bg R n] ||| uT [n]):=by
 have hlen:=mW R n
 refine List.ext_getElem (by rw[List.length_set,mW,mW]) fun i h1 h2=>?_
 rw[List.getElem_set]
 have hi:i<(aJ R 256).length:=by rw[mW,nJ] at h1;exact h1
 have hrep:(aJ R 256)[i]<256:=lU R 256 _ (List.getElem_mem hi)
 have hone:∀ c,mem (uT [n]) c=decide (n=c):=fun c=>by
  rw[VL _ _ (by intro x hx;simp at hx;omega)];simp[eq_comm]
 have hnum:bg R (aJ R 256)[i]=i:=by
  have h3:=DW (R:=R) (b:=(aJ R 256)[i]) hi (E.refl _) (fun j hj=>by
   cases h:R (aJ R 256)[i] ((aJ R 256)[j]'(by omega)) with
   | false=>rfl
   | true =>
    have hs:=uq R 256 j i hj hi
    have:=sO E 256 (aJ R 256)[i] ((aJ R 256)[j]'(by omega)) (List.getElem_mem hi) hs
    rw[this] at h;cases h)
  unfold bg;rw[h3];rfl
 have hiff:=Ho E hrep hn
 rw[hnum] at hiff
 simp only[lV,List.getElem_map]
 by_cases hki:bg R n=i
 ·rw[if_pos hki]
  subst hki
  have hR:=hiff.1 rfl
  refine sH fun c hc=>?_
  rw[KE,sQ,sQ,hone]
  by_cases hcn:n=c
  ·subst hcn;simp[hc,hR]
  ·have:(c<n+1)↔(c<n):=by omega
   simp[hcn,this]
 ·rw[if_neg hki]
  have hR:R (aJ R 256)[i] n=false:=by
   cases h:R (aJ R 256)[i] n with
   | false=>rfl
   | true=>exact absurd (hiff.2 h).symm hki
  refine sH fun c hc=>?_
  rw[sQ,sQ]
  by_cases hcn:c=n
  ·subst hcn;simp[hR]
  ·have:(c<n+1)↔(c<n):=by omega
   simp[this]
def xR(G:Nat→Nat)(B p g m:Nat)(w:World)(L:List aA)(w':World):Prop :=
 Box w' p (aP G) 22∧Own w' B 149 4 encS (.slice (some ⟨g,0,none⟩) m m) L∧Below B w w'∧p<g∧B≤g
theorem xR.kept{G:Nat→Nat}{B p g m:Nat}{w w1 w2:World}{L:List aA}(h:xR G B p g m w L w1)(hb:Below w1.heap.size w1 w2)(hB:B≤w1.heap.size):xR G B p g m w L w2 :=
 ⟨h.1.kept hb,h.2.1.kept hb,h.2.2.1.trans (hb.mono hB),h.2.2.2⟩
theorem XI(f:Nat→Nat)(w:World) :
  Calls Tryz.prog 150 #[.agg (aP f)] w (gV w 149 4 encS (lV (aX (bJ f)) 256)):=by
 have hz:=kE
 have hE:=o7 (bJ f)
 have hN:=D5 f
 have hm:=Hl (aX (bJ f))
 have hlt:=fun n (hn:n<256)=>Hg hE.refl hn
 have h0:=U4 (aX (bJ f))
 have hs:=fun n (hn:n<256) hk=>U5 hE (n:=n) hn hk
 have hl:=mW (aX (bJ f))
 generalize lV (aX (bJ f))=L at *
 generalize bg (aX (bJ f))=G at *
 generalize iO (aX (bJ f))=m at *
 have HN:=ah hN
 have H0:=ah h0
 have HS:=ah hs
 have HL:=ah hl
 have HG:=ah hlt
 clear hN h0 hs hl hlt hE
 go_enter Tryz.func150,Tryz.ntmps150
 go_wp2_with (first | (refine wpList_load_row rfl 22 (.tmp 1) rfl _ rfl _ _ _ _ (Box.new _ _ _) Tryz.underlying22 rfl (aV _) ?_) | (refine dV rfl 22 (.tmp 3) (.tmp 11) rfl _ _ rfl rfl rfl (aV _) (kW _ _) (gX _) ?_) | (go_at_call 124;go_must (refine(HN.out _).mono ?_;rintro e w1 ⟨rfl,hB⟩)) | (refine qU rfl 227 _ _ rfl JD wZ 0 rfl m rfl rfl (by omega) (by simp[maxLen];omega) w.heap.size (by have:=hB.size;simp at this ⊢;omega) ?_;intro w2 ho aho;have HW:=ah aho;clear aho))
 have hw2:=HW.out
 rw[World.size_alloc] at ho
 have hx1:Box w2 w1.heap.size (aP G) 22:=by rw[hw2];exact(Box.new w1 _ _).alloc _
 have hB2:Below w.heap.size w w2:=by
  rw[hw2]
  exact(((((Below.refl w.heap.size w).alloc (Nat.le_refl _) _).trans (hB.mono (by simp))).alloc (by have:=hB.size;simp at this;omega) _).alloc (by have:=hB.size;simp at this ⊢;omega) _)
 have hp:w.heap.size≤w1.heap.size:=by have:=hB.size;simp at this;omega
 have hJ:xR G w.heap.size w1.heap.size (w1.heap.size+1) m w (L 0) w2:=⟨hx1,by rw[H0.out];exact ho,hB2,by omega,by omega⟩
 clear hw2 hx1 hB2 ho hB HW
 generalize w1.heap.size=p at *
 go_loopw [15] (fun i wr=>∃ n:Nat,n≤256∧i=.int .i64 n∧xR G w.heap.size p (p+1) m w (L n) wr) (fun i _=>256 - (intOf i).toNat)
 case atStart=>exact⟨0,Nat.zero_le _,rfl,hJ⟩
 case round =>
  clear hJ
  obtain⟨n,hn,rfl,hJ⟩:=hrel
  by_cases hlt:n<256
  ·have c0:=(hJ.1.cell n).trans (dX _ n hlt)
   have hk:=HG.out n hlt
   have hkl:G n<(L n).length:=by rw[HL.out];exact hk
   have e1:=HS.out n hlt hkl
   have HE:=ah e1
   have hof:=fun a cap w h=>VQ a cap [n] w h (by intro x hx;simp at hx;omega)
   have hcell:=fun w1 (h:xR G w.heap.size p (p+1) m w (L n) w1)=>h.2.1.cells4 hkl
   clear e1
   generalize (L n)[G n]=s at *
   have hcell2:∀ w1,xR G w.heap.size p (p+1) m w (L n) w1→_:=hcell
   generalize uT [n]=s1 at *
   have hun:∀ ad cap w,ak w (.slice ad 2 cap) 4 encS [s,s1]→Calls Tryz.prog 199 #[.slice ad 2 cap] w (bM w (oh (s ||| s1))):=fun ad cap w h=>by have:=XF ad cap [s,s1] w h;rwa[ahj] at this
   generalize s ||| s1=t at *
   generalize G n=k at *
   have hJ0:xR G w.heap.size p (p+1) m w (L n) wr.drew:=hJ.kept (Below.refl _ _).drew (Nat.le_trans hJ.2.2.1.size (Nat.le_refl _))
   have hsz:w.heap.size≤wr.drew.heap.size:=hJ0.2.2.1.size
   have HF:Hid (∀ w1,Later wr.drew w1→xR G w.heap.size p (p+1) m w (L n) w1):=ah fun w1 hl=>hJ0.kept hl hsz
   have IB:=ah hof
   have HUN:=ah hun
   have HC:=ah hcell
   have hu8:IntKind.u8.wrap (n:Int)=(n:Int):=nI n hlt
   have hk0:(0:Int)≤(k:Int):=by omega
   have hkm:(k:Int)<(m:Int):=by omega
   clear hcell2 hcell hof hun hJ hJ0 hkl
   go_wp2_with fail
   refine aH (R:=Later) 13 (by kernel_rfl) ?_
   refine pl [0,1,2,3,4,5,6,7] ?_
   repeat
    refine gU ?_ rfl (fun w1 hl=>?_) ?_
    rotate_left
    ·have hJ:=HF.out w1 hl;obtain⟨⟨q0,q1,q2,q3⟩,_⟩:=HC.out w1 hJ;go_simp;try with_reducible rfl
    simp only[eA,eB,eC,Act.put,eD,eE,eF]
   refine dI ?_
   refine aW (t:=13) (i:=8) (by kernel_rfl) rfl (fun w1 hl K hK=>?_)
   go_simp
   refine hK.out _ _ (fun _=>aj _ _) ?_
   have hL1:Later wr.drew (w1.alloc (.cells #[.int .u8 (n:Nat)] 5)):=Later.trans _ _ _ hl (aj _ _)
   have hs1:=QH w1 n 5
   clear hK K
   refine CW 9 ?_ ?_ ?_ rfl (fun w1=>?_) (fun w1 hl=>?_) ?_
   rotate_left 4
   ·exact IB.out _ _ _ (hs1.kept hl)
   rotate_left
   ·go_simp
   simp only[eA,eB,eC,Act.put,eD,eE,eF]
   refine aW (t:=13) (i:=10) (by kernel_rfl) rfl (fun w1 hl K hK=>?_)
   go_simp
   refine hK.out _ _ (fun _=>aj _ _) ?_
   have hL2:=Later.trans _ _ _ hL1 (Later.trans _ _ _ hl (aj w1 (.cells #[.int .u64 (word s 0:Nat),.int .u64 (word s 1:Nat),.int .u64 (word s 2:Nat),.int .u64 (word s 3:Nat),.int .u64 (word s1 0:Nat),.int .u64 (word s1 1:Nat),.int .u64 (word s1 2:Nat),.int .u64 (word s1 3:Nat)] 149)))
   have hs2:=agl w1 s s1 149
   clear hK K
   refine CW 11 ?_ ?_ ?_ rfl (fun w1=>?_) (fun w1 hl=>?_) ?_
   rotate_left 4
   ·exact HUN.out _ _ _ (hs2.kept hl)
   rotate_left
   ·go_simp
   simp only[eA,eB,eC,Act.put,eD,eE,eF]
   refine iZ 12 ?_ rfl (fun w1 hl=>?_) ?_
   rotate_left
   ·skip;go_simp;try with_reducible rfl
   simp only[eA,eB,eC,Act.put,eD,eE,eF]
   refine aW (t:=13) (i:=13) (by kernel_rfl) rfl (fun w1 hl K hK=>?_)
   have hJ:=HF.out w1 (Later.trans _ _ _ hL2 hl)
   obtain⟨⟨q0,q1,q2,q3⟩,⟨f0,f1,f2,f3⟩⟩:=HC.out w1 hJ
   go_simp
   refine hK.out _ _ (fun h=>absurd rfl h) ?_
   clear hK K q0 q1 q2 q3 f0 f1 f2 f3
   have ZQ:xR G w.heap.size p (p+1) m w (L (n+1)) ((((w1.setCell ⟨p+1,k*4,none⟩ (.int .u64 (word t 0:Nat))).setCell ⟨p+1,k*4+1,none⟩ (.int .u64 (word t 1:Nat))).setCell ⟨p+1,k*4+2,none⟩ (.int .u64 (word t 2:Nat))).setCell ⟨p+1,k*4+3,none⟩ (.int .u64 (word t 3:Nat))):=by
    obtain⟨j1,j2,j3,j4,j5⟩:=hJ
    refine⟨j1.acv (by omega) _ _ _ _,?_,QI j3 j5 _ _ _ _,j4,j5⟩
    rw[HE.out]
    exact j2.zW (by rw[HL.out];exact hk) rfl t
   refine aQ (by kernel_rfl) (fun w1 hl=>?_) _
   have hJ5:=ZQ.kept hl (by have:=ZQ.2.2.1.size;exact this)
   clear hJ ZQ
   go_wp2
   go_roundw
   case rel=>exact⟨n+1,hlt,by go_num,hJ5⟩
   case measure=>simp[intOf];omega
  ·obtain rfl:n=256:=by omega
   go_wp2
   go_ret
   exact⟨some ⟨p+1,0,none⟩,m,by rw[HL.out];rfl,by rw[HL.out];exact hJ.2.1,hJ.2.2.1⟩
end
section
open Go.RowKit
def dA(n:Nat):Nat:=(n+63) / 64
def uy(m S:Nat):Array Value:=((je m S).map fun x=>Value.int .u64 (x:Nat)).toArray
theorem pG(m S k:Nat)(h:k<m):(uy m S)[k]?=some (.int .u64 (eH S k:Nat)):=by simp[uy,je,h]
theorem U6(m S:Nat):(uy m S).size=m:=by simp[uy,je]
theorem XJ(m S i:Nat):uy m (S ||| 1 <<< i)=(uy m S).setIfInBounds (i / 64) (.int .u64 ((eH S (i / 64) ||| 1 <<< (i % 64):Nat):Nat)):=by
 unfold uy
 rw[Xx,List.setIfInBounds_toArray,List.map_set]
structure gu(w:World)(p g n S:Nat):Prop where
 box:Box w p #[.int .i64 n,.slice (some ⟨g,0,none⟩) (dA n) (dA n)] 382
 words:Box w g (uy (dA n) S) 147
 lt:S<2 ^ n
 ne:p≠g
theorem gu.kept{w w':World}{p g n S:Nat}(h:gu w p g n S)(hb:Below w.heap.size w w'):gu w' p g n S:=⟨h.box.kept hb,h.words.kept hb,h.lt,h.ne⟩
theorem OX(n:Nat):bits BinOp.and IntKind.i64 (n:Int) 63=((n % 64:Nat):Int):=by
 have h63:(BitVec.ofInt 64 63).toNat=2 ^ 6 - 1:=by decide
 have key:(BitVec.ofInt 64 (n:Int) &&& BitVec.ofInt 64 63).toNat=((n:Int) % ((2 ^ 64:Nat):Int)).toNat % 2 ^ 6:=by
  rw[BitVec.toNat_and,BitVec.toNat_ofInt,h63,Nat.and_two_pow_sub_one_eq_mod]
 show IntKind.i64.wrap ((BitVec.ofInt 64 (n:Int) &&& BitVec.ofInt 64 63).toNat:Nat)=_
 rw[key,IntKind.wrap_i64]
 omega
theorem ac1:eu Tryz.prog 380 147 (.int .u64 0) 1 8:=⟨Tryz.underlying380,info_parts (by kernel_rfl),rfl,by decide⟩
def ahp(x:Nat):List Value:=[.int .u64 (x:Nat)]
theorem ags:fD ahp 1:=⟨fun _=>rfl,fun x u hu=>by simp[ahp] at hu;subst hu;rfl⟩
theorem XK(m:Nat):madeCells #[Value.int .u64 0] (m*1)=uy m 0:=by
 apply Array.ext_getElem?
 intro i
 by_cases h:i<m
 ·rw[yU _ _ _ (by omega) (by simp),pG _ _ _ h,show eH 0 i=0 by simp[eH]]
  simp[Nat.mod_one]
 ·rw[Array.getElem?_eq_none (by rw[size_madeCells];omega),Array.getElem?_eq_none (by rw[U6];omega)]
theorem KY(n:Nat)(w:World)(hn:n≤1048576):Calls Tryz.prog 283 #[.int .i64 n] w fun e w'=>e=.returned (.tuple #[.pointer (some ⟨w.heap.size+1,0,none⟩),.int .i64 0])∧gu w' (w.heap.size+1) w.heap.size n 0∧w'.heap.size=w.heap.size+2∧Below w.heap.size w w':=by
 have h1:decide ((n:Int)<0)=false:=decide_eq_false (by omega)
 have h2:decide ((1048576:Int)<(n:Int))=false:=by simp;omega
 have hq:((n:Int)+63) / 64=((dA n:Nat):Int):=by unfold dA;omega
 have hm:dA n≤16384:=by unfold dA;omega
 have HQ:=ah hq
 clear hq
 go_enter Tryz.func283,Tryz.ntmps283
 go_wp2_with (refine qU rfl 380 _ _ rfl ac1 ags 0 rfl (dA n) (congrArg (Value.int .i64) HQ.out) (congrArg (Value.int .i64) HQ.out) (by omega) (by simp[maxLen];omega) w.heap.size (Nat.le_refl _) ?_;intro w1 ho hw1;have hs1:w1.heap.size=w.heap.size+1:=(by rw[hw1];simp))
 go_ret2
 have e:=XK (dA n)
 rw[Nat.mul_one] at e
 rw[e]
 have hB1:=aj w (.cells (uy (dA n) 0) 147)
 exact⟨rfl,⟨Box.new' (by simp) _ _,(Box.new w _ _).alloc _,Nat.pos_of_ne_zero (by simp),by omega⟩,by simp,hB1.alloc hB1.size _⟩
theorem IC(n i:Nat)(w:World):Calls Tryz.prog 307 #[.int .i64 n,.int .i64 i] w fun e w'=>e=.returned (.bool (decide (i<n)))∧w'=w:=by
 have h1:decide ((0:Int)≤(i:Int))=true:=by simp
 have h2:decide ((i:Int)<(n:Int))=decide (i<n):=by simp
 go_enter Tryz.func307,Tryz.ntmps307
 go_wp2
 go_ret
 exact⟨rfl,rfl⟩
theorem ac2(p g n S i:Nat)(w:World)(h:gu w p g n S)(hi:i≤1099511627776):Calls Tryz.prog 308 #[.pointer (some ⟨p,0,none⟩),.int .i64 i] w fun e w'=>e=.returned (.bool (decide (i<n)&&S.testBit i))∧w'=w:=by
 have hf:=fun u=>IC n i u
 have x0:w.cell? ⟨p,0,none⟩=some (.int .i64 n):=h.box.cell 0
 have x1:w.cell? ⟨p,1,none⟩=some (.slice (some ⟨g,0,none⟩) (dA n) (dA n)):=h.box.cell 1
 have h63:=OX i
 by_cases hin:i<n
 ·rw[decide_eq_true hin] at hf
  have hk:i / 64<dA n:=by unfold dA;omega
  have hz:=DY S (i / 64)
  have x2:w.cell? ⟨g,i / 64,none⟩=some (.int .u64 (eH S (i / 64):Nat)):=(h.words.cell _).trans (pG _ _ _ hk)
  rw[decide_eq_true hin,Bool.true_and]
  have hb:(eH S (i / 64)).testBit (i % 64)=S.testBit i:=by
   rw[uV,decide_eq_true (Nat.mod_lt _ (by decide)),Bool.true_and,show 64*(i / 64)+i % 64=i by omega]
  have ha:=and_one _ (i % 64) hz
  rw[hb] at ha
  have h64:i % 64<64:=Nat.mod_lt _ (by decide)
  have HF:=ah hf;have HA:=ah ha;have H63:=ah h63
  clear hf h hb ha h63
  generalize eH S (i / 64)=z at *
  go_enter Tryz.func308,Tryz.ntmps308
  go_wp2_with (first | (go_at_call 307;go_must (refine(HF.out _).mono ?_;rintro e w2 ⟨rfl,rfl⟩)) | (simp only[H63.out]))
  go_ret
  exact⟨congrArg (fun b=>Ending.returned (.bool b)) HA.out,rfl⟩
 ·rw[decide_eq_false hin] at hf ⊢
  have HF:=ah hf
  clear hf h h63
  go_enter Tryz.func308,Tryz.ntmps308
  go_wp2_with (go_at_call 307;go_must (refine(HF.out _).mono ?_;rintro e w2 ⟨rfl,rfl⟩))
  go_ret
  exact⟨rfl,rfl⟩
theorem gu.put{w:World}{p g n S i:Nat}(h:gu w p g n S)(hi:i<n):gu (w.setCell ⟨g,i / 64,none⟩ (.int .u64 ((eH S (i / 64) ||| 1 <<< (i % 64):Nat):Nat))) p g n (S ||| 1 <<< i) :=
 ⟨h.box.other _ _ h.ne,by rw[XJ];exact h.words.set _ _,Zx n S i hi h.lt,h.ne⟩
structure aU(g:Nat)(w w':World):Prop where
 os:w'.os=w.os
 tape:w'.tape=w.tape
 output:w'.output=w.output
 size:w.heap.size≤w'.heap.size
 block:∀ b,b<w.heap.size→b≠g→w'.heap[b]?=w.heap[b]?
theorem aU.below{g:Nat}{w w':World}(h:Below w.heap.size w w'):aU g w w':=⟨h.os,h.tape,h.output,h.size,fun b hb _=>h.block b hb⟩
theorem aU.refl(g:Nat)(w:World):aU g w w:=.below (Below.refl _ _)
theorem aU.trans{g:Nat}{a b c:World}(h:aU g a b)(k:aU g b c):aU g a c :=
 ⟨k.os.trans h.os,k.tape.trans h.tape,k.output.trans h.output,Nat.le_trans h.size k.size,fun x hx hn=>(k.block x (Nat.lt_of_lt_of_le hx h.size) hn).trans (h.block x hx hn)⟩
theorem aU.set{g:Nat}{w w':World}(h:aU g w w')(i:Nat)(u:Value):aU g w (w'.setCell ⟨g,i,none⟩ u) :=
 ⟨h.os,h.tape,h.output,(by rw[World.size_setCell];exact h.size),fun b hb h1=>(heap_setCell_other w' ⟨g,i,none⟩ b u h1).trans (h.block b hb h1)⟩
theorem aU.box{g:Nat}{w w':World}{b:Nat}{c:Array Value}{E:TypeId}(h:aU g w w')(hx:Box w b c E)(hn:b≠g):Box w' b c E:=(h.block b hx.lt hn).trans hx
theorem aU.toBelow{g:Nat}{w0 w w':World}(h:aU g w w')(hb:Below w0.heap.size w0 w)(hg:w0.heap.size≤g):Below w0.heap.size w0 w' :=
 ⟨h.os.trans hb.os,h.tape.trans hb.tape,h.output.trans hb.output,Nat.le_trans hb.size h.size,fun b hb'=>(h.block b (Nat.lt_of_lt_of_le hb' hb.size) (by omega)).trans (hb.block b hb')⟩
def oz(p g n S i:Nat)(w:World)(e:Ending)(w':World):Prop :=
 if i<n∧S.testBit i=false then e=.returned (.bool true)∧gu w' p g n (S ||| 1 <<< i)∧aU g w w' else e=.returned (.bool false)∧w'=w
theorem Rf(p g n S i:Nat)(w:World)(h:gu w p g n S)(hi:i≤1099511627776):Calls Tryz.prog 284 #[.pointer (some ⟨p,0,none⟩),.int .i64 i] w (oz p g n S i w):=by
 have hf:=fun u=>IC n i u
 have hh:=ac2 p g n S i w h hi
 have x0:w.cell? ⟨p,0,none⟩=some (.int .i64 n):=h.box.cell 0
 have x1:w.cell? ⟨p,1,none⟩=some (.slice (some ⟨g,0,none⟩) (dA n) (dA n)):=h.box.cell 1
 have h63:=OX i
 by_cases hin:i<n
 ·rw[decide_eq_true hin] at hf hh
  have hk:i / 64<dA n:=by unfold dA;omega
  have hz:=DY S (i / 64)
  have x2:w.cell? ⟨g,i / 64,none⟩=some (.int .u64 (eH S (i / 64):Nat)):=(h.words.cell _).trans (pG _ _ _ hk)
  have f2:=h.words.free (i / 64)
  cases hb:S.testBit i with
  | true =>
   have hR:∀ e w',e=.returned (.bool false)∧w'=w→oz p g n S i w e w':=fun e w' h=>by unfold oz;rw[if_neg (by simp[hb])];exact h
   generalize oz p g n S i w=R at *
   rw[hb] at hh
   have HF:=ah hf;have HH:=ah hh;have HR:=ah hR
   clear hf h hh hR h63 x2 f2 hb
   go_enter Tryz.func284,Tryz.ntmps284
   go_wp2_with (first | (go_at_call 307;go_must (refine(HF.out _).mono ?_;rintro e w2 ⟨rfl,rfl⟩)) | (go_at_call 308;go_must (refine HH.out.mono ?_;rintro e w3 ⟨rfl,rfl⟩)))
   exact HR.out _ _ ⟨rfl,rfl⟩
  | false =>
   have hR:∀ e w',e=.returned (.bool true)∧gu w' p g n (S ||| 1 <<< i)∧aU g w w'→oz p g n S i w e w':=fun e w' h=>by unfold oz;rw[if_pos ⟨hin,hb⟩];exact h
   generalize oz p g n S i w=R at *
   rw[hb] at hh
   have hor:=or_bit _ (i % 64) hz (Nat.mod_lt _ (by decide))
   rw[←Nat.one_shiftLeft] at hor
   have h64:i % 64<64:=Nat.mod_lt _ (by decide)
   have HF:=ah hf;have HH:=ah hh;have HR:=ah hR;have HO:=ah hor;have H63:=ah h63
   clear hf hh hR hb hor h63
   have hput:=fun u (hu:gu u p g n S)=>hu.put hin
   have HF2:Hid (∀ u,Later w.drew u→gu u p g n S∧u.cell? ⟨g,i / 64,none⟩=some (.int .u64 (eH S (i / 64):Nat))):=ah fun u hl=>⟨⟨h.box.drew.kept hl,h.words.drew.kept hl,h.lt,h.ne⟩,((h.words.drew.kept hl).cell _).trans (pG _ _ _ hk)⟩
   have HP:=ah hput
   have hg0:(0:Int)≤(i:Int) / 64:=by omega
   have hg1:(i:Int) / 64<((dA n:Nat):Int):=by omega
   have hg2:((i:Int) / 64).toNat=i / 64:=by omega
   have hg3:((i:Int) % 64).toNat=i % 64:=by omega
   have HG:=ah (And.intro hg0 (And.intro hg1 (And.intro hg2 hg3)))
   clear hput hg0 hg1 hg2 hg3
   generalize eH S (i / 64)=z at *
   go_enter Tryz.func284,Tryz.ntmps284
   go_wp2_with (first | (go_at_call 307;go_must (refine(HF.out _).mono ?_;rintro e w2 ⟨rfl,rfl⟩)) | (go_at_call 308;go_must (refine HH.out.mono ?_;rintro e w3 ⟨rfl,rfl⟩)))
   clear h x0 x1 x2 f2
   refine aH (R:=Later) 13 (by kernel_rfl) ?_
   refine pl [0,1,2,3,4,5,6,7,8,9,10,11,12] ?_
   repeat
    refine gU ?_ rfl (fun w1 hl=>?_) ?_
    rotate_left
    ·obtain⟨hS,x2⟩:=HF2.out w1 hl;have x0:=hS.box.cell 0;have x1:=hS.box.cell 1;have h63:=H63.out;have ho:=HO.out;obtain⟨hg0,hg1,hg2,hg3⟩:=HG.out;go_simp;try with_reducible rfl
    simp only[eA,eB,eC,Act.put,eD,eE,eF]
   refine dI ?_
   refine aW (t:=13) (i:=13) (by kernel_rfl) rfl (fun w1 hl K hK=>?_)
   obtain⟨hS,x2⟩:=HF2.out w1 hl
   have f2:=hS.words.free (i / 64)
   go_simp
   refine hK.out _ _ (fun h=>absurd rfl h) ?_
   clear hK K
   have zf:=HP.out w1 hS
   have hON:aU g w3 (w1.setCell ⟨g,i / 64,none⟩ (.int .u64 ((z ||| 1 <<< (i % 64):Nat):Nat))):=(aU.below ((Below.refl w3.heap.size w3).drew.trans hl)).set _ _
   clear hl hS x2 f2 HF2
   refine aQ (by kernel_rfl) (fun w1 hl=>?_) _
   have am3:=zf.kept hl
   have am4:=hON.trans (.below hl)
   clear hl zf hON
   go_wp2
   trace_state
   exact HR.out _ _ ⟨rfl,am3,am4⟩
 ·rw[decide_eq_false hin] at hf
  have hR:∀ e w',e=.returned (.bool false)∧w'=w→oz p g n S i w e w':=fun e w' h=>by unfold oz;rw[if_neg (by omega)];exact h
  generalize oz p g n S i w=R at *
  have HF:=ah hf;have HR:=ah hR
  clear hf h hh hR h63
  go_enter Tryz.func284,Tryz.ntmps284
  go_wp2_with (go_at_call 307;go_must (refine(HF.out _).mono ?_;rintro e w2 ⟨rfl,rfl⟩))
  exact HR.out _ _ ⟨rfl,rfl⟩
end
end Go.Proofs.YtbemonecmmnlcaaGreatDoor
