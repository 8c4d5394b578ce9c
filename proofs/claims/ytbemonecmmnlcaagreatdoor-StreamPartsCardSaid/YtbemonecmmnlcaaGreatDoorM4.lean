/- The texts of S4, in few letters (mini.py). -/
import Derived.Test.YtbemonecmmnlcaaGreatDoorProg
import Derived.Test.YtbemonecmmnlcaaGreatDoorM3
set_option linter.unusedVariables false
set_option linter.unusedSimpArgs false
set_option maxHeartbeats 1600000
set_option maxRecDepth 20000
namespace Go.Proofs.YtbemonecmmnlcaaGreatDoor
section
open Go.RowKit
def mix(s t:ay)(j:Nat):ay:=wZ (if 0<j then word t 0 else word s 0) (if 1<j then word t 1 else word s 1) (if 2<j then word t 2 else word s 2) (if 3<j then word t 3 else word s 3)
theorem uD(s t:ay)(j k:Nat)(hk:k<4):word (mix s t j) k=if k<j then word t k else word s k:=by
 unfold mix
 have hm:∀ i,(if i<j then word t i else word s i) % 2 ^ 64=if i<j then word t i else word s i:=fun i=>Nat.mod_eq_of_lt (by split <;> exact word_lt _ _)
 obtain⟨e0,e1,e2,e3⟩:=Nk (if 0<j then word t 0 else word s 0) (if 1<j then word t 1 else word s 1) (if 2<j then word t 2 else word s 2) (if 3<j then word t 3 else word s 3)
 match k,hk with
 | 0,_=>rw[e0,hm 0]
 | 1,_=>rw[e1,hm 1]
 | 2,_=>rw[e2,hm 2]
 | 3,_=>rw[e3,hm 3]
theorem Y0(s t:ay):mix s t 0=s:=word_inj fun i hi=>by rw[uD _ _ _ _ hi,if_neg (by omega)]
theorem Y1(s t:ay):mix s t 4=t:=word_inj fun i hi=>by rw[uD _ _ _ _ hi,if_pos hi]
theorem Y2(s t:ay)(j:Nat)(hj:j<4):(dX (mix s t j)).setIfInBounds j (.int .u64 (word t j:Nat))=dX (mix s t (j+1)):=by
 have h:=YK (mix s t j) (mix s t (j+1)) j hj fun i hi hne=>by
  rw[uD _ _ _ _ hi,uD _ _ _ _ hi]
  by_cases h:i<j
  ·rw[if_pos h,if_pos (by omega)]
  ·rw[if_neg h,if_neg (by omega)]
 rwa[uD _ _ _ _ hj,if_pos (by omega)] at h
theorem Box.mix{w:World}{b E:Nat}{s t:ay}{j:Nat}(h:Box w b (dX (mix s t j)) E)(hj:j<4)(v:Value)(hv:v=.int .u64 (word t j:Nat)):Box (w.setCell ⟨b,j,none⟩ v) b (dX (Proofs.YtbemonecmmnlcaaGreatDoor.mix s t (j+1))) E:=by
 subst hv
 rw[←Y2 s t j hj]
 exact h.set j _
theorem Box.aiQ{w:World}{b E:Nat}{s t:ay}{j:Nat}(h:Box w b (dX (Proofs.YtbemonecmmnlcaaGreatDoor.mix s t j)) E)(hj:j<4):w.cell? ⟨b,j,none⟩=some (.int .u64 (word s j:Nat)):=by
 have:=h.aiM hj
 rwa[uD _ _ _ _ hj,if_neg (by omega)] at this
theorem CW(s:ay)(j:Nat)(h:j<4)(w:World):(Instr.index 149 (.agg #[.int .u64 (word s 0:Nat),.int .u64 (word s 1:Nat),.int .u64 (word s 2:Nat),.int .u64 (word s 3:Nat)]) (.int .i64 (j:Nat))).run Tryz.prog w=.ok (.int .u64 (word s j:Nat)) w:=by
 have i0:(Instr.index 149 (.agg #[.int .u64 (word s 0:Nat),.int .u64 (word s 1:Nat),.int .u64 (word s 2:Nat),.int .u64 (word s 3:Nat)]) (.int .i64 (0:Nat))).run Tryz.prog w=.ok (.int .u64 (word s 0:Nat)) w:=by kernel_rfl
 have i1:(Instr.index 149 (.agg #[.int .u64 (word s 0:Nat),.int .u64 (word s 1:Nat),.int .u64 (word s 2:Nat),.int .u64 (word s 3:Nat)]) (.int .i64 (1:Nat))).run Tryz.prog w=.ok (.int .u64 (word s 1:Nat)) w:=by kernel_rfl
 have i2:(Instr.index 149 (.agg #[.int .u64 (word s 0:Nat),.int .u64 (word s 1:Nat),.int .u64 (word s 2:Nat),.int .u64 (word s 3:Nat)]) (.int .i64 (2:Nat))).run Tryz.prog w=.ok (.int .u64 (word s 2:Nat)) w:=by kernel_rfl
 have i3:(Instr.index 149 (.agg #[.int .u64 (word s 0:Nat),.int .u64 (word s 1:Nat),.int .u64 (word s 2:Nat),.int .u64 (word s 3:Nat)]) (.int .i64 (3:Nat))).run Tryz.prog w=.ok (.int .u64 (word s 3:Nat)) w:=by kernel_rfl
 match j,h with
 | 0,_=>exact i0
 | 1,_=>exact i1
 | 2,_=>exact i2
 | 3,_=>exact i3
theorem Y4(s x:ay)(j:Nat):bits BinOp.or IntKind.u64 (word s j:Nat) (word x j:Nat)=((word (s ||| x) j:Nat):Int):=by
 rw[acE,bits_or_u64_nat _ _ (word_lt _ _) (word_lt _ _)]
theorem TJ(a:Option Addr)(cap:Nat)(l:List ay)(w:World)(h:ak w (.slice a l.length cap) 4 encS l) :
  Calls Tryz.prog 199 #[.slice a l.length cap] w (bV w (oH (l.foldl (· ||| ·) 0))):=by
 obtain⟨b,o,hlen,hcap,hcap',ha,hbl,hcell⟩:=h.sets
 clear hlen h hbl
 have HC:=ah hcell
 clear hcell
 go_enter Tryz.func199,Tryz.ntmps199
 go_wp2
 go_loopw [10] (fun i wr=>∃ j:Nat,j≤l.length∧i=.int .i64 j∧Box wr w.heap.size (dX 0) 149∧Box wr (w.heap.size+1) (dX ((l.take j).foldl (· ||| ·) 0)) 149∧Below w.heap.size w wr) (fun i _=>l.length - (intOf i).toNat)
 case atStart =>
  refine⟨0,Nat.zero_le _,rfl,?_,?_,by go_grown⟩
  ·rw[mJ];exact(Box.new' rfl _ _).alloc _
  ·rw[List.take_zero,List.foldl_nil,mJ];exact Box.new' (by simp) _ _
 case round =>
  obtain⟨j,hj,rfl,h0,hb,hB⟩:=hrel
  by_cases hlt:j<l.length
  ·have hdj:decide ((j:Int)<(l.length:Int))=true:=decide_eq_true (by omega)
   obtain rfl:=ha j hlt
   obtain⟨c0,c1,c2,c3⟩:=HC.out j hlt wr hB
   have e2:(l.take (j+1)).foldl (· ||| ·) 0=(l.take j).foldl (· ||| ·) 0 ||| l[j]:=by rw[List.take_succ_eq_append_getElem hlt,List.foldl_append];rfl
   have HE:=ah e2
   clear e2
   generalize l[j]=x at *
   generalize (l.take j).foldl (· ||| ·) 0=s at *
   have hop:=Y4 s x
   generalize s ||| x=t at *
   have hs0:=h0.lt
   have hs1:=hb.lt
   go_wp2
   go_loopw [15] (fun i wr=>∃ k:Nat,k≤4∧i=.int .i64 k∧Box wr w.heap.size (dX 0) 149∧Box wr (w.heap.size+1) (dX (mix s t k)) 149∧Below w.heap.size w wr) (fun i _=>4 - (intOf i).toNat)
   case atStart=>exact⟨0,Nat.zero_le _,rfl,h0.alloc _,by rw[Y0];exact hb.alloc _,by go_grown⟩
   case round =>
    obtain⟨k,hk,rfl,h0,hb,hB⟩:=hrel
    by_cases hlt2:k<4
    ·have gw:=CW x k hlt2
     have hc:=hb.aiQ hlt2
     have hf:=hb.free k
     have hv:=hop k
     go_wp2
     go_roundw
     case rel=>exact⟨k+1,hlt2,by go_num,h0.other _ _ (by simp),hb.mix hlt2 _ rfl,by go_grown⟩
     case measure=>simp[intOf];omega
    ·obtain rfl:k=4:=by omega
     rw[Y1] at hb
     go_wp2
     go_roundw
     case rel=>exact⟨j+1,hlt,by go_num,h0,by rw[HE.out];exact hb,hB⟩
     case measure=>simp[intOf];omega
  ·obtain rfl:j=l.length:=by omega
   rw[List.take_length] at hb
   obtain⟨⟨p0,p1,p2,p3⟩,⟨q0,q1,q2,q3⟩⟩:=h0.FY
   obtain⟨⟨r0,r1,r2,r3⟩,_⟩:=hb.FY
   go_wp2
   exact eU Tryz.results199 rfl (h0.zS rfl _ _ _ _) Tryz.underlying149 rfl (by kernel_rfl) rfl ⟨rfl,by go_grown⟩
end
section
open Go.RowKit
theorem Gh(s:ay)(x:Nat)(w:World)(hx:x<256) :
  Calls Tryz.prog 239 #[oH s,.int .u8 x] w (bV w (.bool (mem s x))):=by
 have hxi:=CJ s (x / 64) (by omega)
 have hz:=word_lt s (x / 64)
 go_enter Tryz.func239,Tryz.ntmps239
 go_wp2
 go_ret
 exact⟨congrArg (fun b=>Ending.returned (.bool b)) ((and_one _ _ hz).trans (FX s x).symm),by go_grown⟩
theorem Rx(a:Option Addr)(cap:Nat)(xs:List Nat)(w:World)(h:ak w (.slice a xs.length cap) 1 (fun x:Nat=>[.int .u8 x]) xs)(hx:∀ x∈xs,x<256) :
  Calls Tryz.prog 200 #[.slice a xs.length cap] w (bV w (oH (qW xs))):=by
 obtain⟨b,o,hlen,hcap,hcap',ha,hcell⟩:=h.open
 clear hlen h
 go_enter Tryz.func200,Tryz.ntmps200
 go_wp2
 go_loopw [8] (fun i wr=>∃ k:Nat,k≤xs.length∧i=.int .i64 k∧Box wr w.heap.size (dX 0) 149∧Box wr (w.heap.size+1) (dX (qW (xs.take k))) 149∧Below w.heap.size w wr) (fun i _=>xs.length - (intOf i).toNat)
 case atStart =>
  refine⟨0,Nat.zero_le _,rfl,?_,?_,by go_grown⟩
  ·rw[mJ];exact(Box.new' rfl _ _).alloc _
  ·rw[List.take_zero,show qW []=0 from rfl,mJ];exact Box.new' (World.size_alloc _ _).symm _ _
 case round =>
  obtain⟨k,hk,rfl,hb0,hb1,hB⟩:=hrel
  by_cases hlt:k<xs.length
  ·obtain rfl:=ha k hlt
   have hxk:=hx xs[k] (List.getElem_mem hlt)
   have hc:wr.cell? ⟨b,o+k,none⟩=some (.int .u8 (xs[k]:Nat)):=by
    have:=hcell k hlt 0 _ rfl
    rw[hB.cell (World.block_lt_of_cell? w _ (by simpa using this))];simpa using this
   have e1:wr.cell? ⟨w.heap.size+1,xs[k] / 64,none⟩=some (.int .u64 (word (qW (xs.take k)) (xs[k] / 64):Nat)):=by
    rw[hb1.cell];simpa using CJ _ _ (by omega)
   have e2:=hb1.free (xs[k] / 64)
   have e3:qW (xs.take (k+1))=wK (qW (xs.take k)) xs[k]:=by rw[List.take_succ_eq_append_getElem hlt,YJ]
   have e4:=ah e3
   clear e3 ha hcell hx
   generalize xs[k]=x at *
   have hw:=word_lt (qW (xs.take k)) (x / 64)
   go_wp2
   go_roundw
   case rel =>
    refine⟨k+1,hlt,by go_num,hb0.other _ _ (by simp),?_,by go_grown⟩
    rw[e4.out,or_bit _ _ hw (Nat.mod_lt _ (by decide)),←Tm _ _ hxk]
    exact hb1.set _ _
   case measure=>simp[intOf];omega
  ·have hke:k=xs.length:=by omega
   subst hke
   obtain⟨⟨p0,p1,p2,p3⟩,⟨q0,q1,q2,q3⟩⟩:=hb0.FY
   obtain⟨⟨r0,r1,r2,r3⟩,_⟩:=hb1.FY
   rw[List.take_length] at r0 r1 r2 r3
   clear hb1 ha hcell
   go_wp2
   exact eU Tryz.results200 rfl (hb0.zS rfl _ _ _ _) Tryz.underlying149 rfl (by kernel_rfl) rfl ⟨rfl,by go_grown⟩
end
section
open Go.RowKit
def Nf.goes(y:Nf)(s:Nat):List Nat:=(y.links.filter fun l=>l.1==s).map (·.2)
def Nf.out(y:Nf)(s:Nat):List (Nat×ay×Nat):=y.edges.filter fun e=>e.1==s
def fA(y:Nf)(l:List Nat):List Nat:=fM y.states (oN y.states y.goes (y.states+1) (l.foldl (iV y.states) (0,[])))
def fZ(y:Nf)(l:List Nat)(b:Nat):List Nat:=fA y (l.flatMap fun s=>((y.out s).filter fun e=>mem e.2.1 b).map (·.2.2))
theorem Gi(n:Nat)(l:List Nat)(st:Nat×List Nat)(h:st.1<2 ^ n):(l.foldl (iV n) st).1<2 ^ n:=by
 induction l generalizing st with
 | nil=>exact h
 | cons a l ih=>rw[List.foldl_cons];exact ih _ (acK n st a h)
theorem CX(n:Nat)(goes:Nat→List Nat):∀ (f:Nat) (st:Nat×List Nat),st.1<2 ^ n→oN n goes f st<2 ^ n
 | 0,st,h=>h
 | f+1,st,h=>by
  rw[oN]
  split
  ·exact h
  ·exact CX n goes f _ (Gi n _ _ h)
theorem Y5(n:Nat)(st:Nat×List Nat)(s:Nat)(h:∀ x∈st.2,x<n):∀ x∈(iV n st s).2,x<n:=by
 unfold iV
 split
 ·rename_i h1
  intro x hx
  rcases List.mem_append.1 hx with hx | hx
  ·exact h x hx
  ·simp at hx;omega
 ·exact h
theorem KL(n:Nat)(l:List Nat)(st:Nat×List Nat)(h:∀ x∈st.2,x<n):∀ x∈(l.foldl (iV n) st).2,x<n:=by
 induction l generalizing st with
 | nil=>exact h
 | cons a l ih=>rw[List.foldl_cons];exact ih _ (Y5 n st a h)
theorem H8{α β:Type}(f:β→α→β)(l:List α)(z:β)(k:Nat)(h:k<l.length):(l.take (k+1)).foldl f z=f ((l.take k).foldl f z) l[k]:=by
 rw[List.take_succ_eq_append_getElem h,List.foldl_append];rfl
theorem KN{α β:Type}(f:β→α→β)(l:List α)(z:β):(l.take l.length).foldl f z=l.foldl f z:=by rw[List.take_length]
end
section
open Go.RowKit
theorem NK:(Tryz.prog.info? 22).map (fun i=>(i.zero,i.size))=some (some (.agg (aT fun _=>0)),256):=by kernel_rfl
theorem oQ(w:World):(zeroValue 22).run Tryz.prog w=.ok (.agg (aT fun _=>0)) w:=(zero_of_info NK).1 w
theorem bG(f:Nat→Nat):(Tryz.prog.info? 22).map (·.size)=some (aT f).size:=by rw[aO];exact(zero_of_info NK).2
theorem Gj:pV Tryz.prog 4 (fun n:Bool=>Value.bool n):=Tn Tryz.underlying4
theorem Qy(k:Nat→Bool)(w:World)
  (hkey:∀ b:Nat,b<256→∀ w',Below w.heap.size w w'→Calls Tryz.prog 236 #[.int .i64 b] w' (bV w' (.bool (k b)))) :
  Calls Tryz.prog 235 #[.func (.func 236) #[] #[]] w (bV w (.tuple #[.agg (aT (bf (bH k))),.int .i64 (iZ (bH k):Nat)])):=by
 have E:=qY k
 have hz:=oQ
 have hmm:=@run_makeMap Tryz.prog
 have HK:=ah hkey
 clear hkey
 generalize hR:bH k=R at *
 have HR:=ah hR
 clear hR
 go_enter Tryz.func235,Tryz.ntmps235
 go_wp2
 go_loopw [11] (fun i wr=>∃ n:Nat,n≤256∧i=.int .i64 n∧Box wr w.heap.size (aT fun _=>0) 22∧Box wr (w.heap.size+1) (aT fun b=>if b<n then bf R b else 0) 22∧aG wr (w.heap.size+1+1) (fun n:Bool=>Value.bool n) (ou k (aK R n))∧Below w.heap.size w wr) (fun i _=>256 - (intOf i).toNat)
 case atStart =>
  refine⟨0,Nat.zero_le _,rfl,((Box.new' rfl _ _).alloc _).alloc _,?_,?_,by go_grown⟩
  ·rw[fK (g:=fun _=>0) (fun i _=>by simp)];exact(Box.new' (World.size_alloc _ _).symm _ _).alloc _
  ·rw[AZ];refine aG.new' ?_ _;simp
 case round =>
  obtain⟨n,hn,rfl,hb0,hb1,hm,hB⟩:=hrel
  by_cases hlt:n<256
  ·have hlook:=AY k n (aK R n)
   rw[HR.out] at hlook
   have hlen:=jZ R n
   cases hany:(aK R n).any (R n) with
   | true =>
    obtain⟨e1,e2⟩:=F6 E.refl hlt hany
    rw[e2] at hlook
    have HL:=ah hlook
    have HE:=ah e1
    clear hlook e1 e2 hany
    go_wp2_with (go_at_call 236;go_must (refine(HK.out n hlt _ hB).mono ?_;rintro e w1 ⟨rfl,hb⟩;have hB1:=(hB.trans (hb.mono hB.size));have hx0:=(hb0.kept hb);have hx1:=(hb1.kept hb);have hm1:=(hm.kept hb);have hrun:=hm1.oK Gj Tryz.underlying351 (Tryz.zeroValue5 _) (k n);rw[HL.out] at hrun;have hc:=(hx1.cell n).trans (fF _ n hlt);have hf:=hx1.free n))
    go_roundw
    case rel =>
     refine⟨n+1,hlt,by go_num,hx0.other _ _ (by simp),?_,?_,by go_grown⟩
     ·have:=hx1.set n (.int .u8 (bf R n:Nat))
      rw[uq,fK (g:=fun b=>if b<n+1 then bf R b else 0) (nM rfl)] at this
      exact this
     ·rw[HE.out];exact hm1.other _ _ (by simp)
    case measure=>simp[intOf];omega
   | false =>
    obtain⟨e1,e2⟩:=F5 E.refl hlt hany
    rw[vK hany] at hlook
    have HL:=ah hlook
    have HE:=ah e1
    have HN:=ah e2
    clear hlook e1 e2 hany
    go_wp2_with (go_at_call 236;go_must (refine(HK.out n hlt _ hB).mono ?_;rintro e w1 ⟨rfl,hb⟩;have hB1:=(hB.trans (hb.mono hB.size));have hx0:=(hb0.kept hb);have hx1:=(hb1.kept hb);have hm1:=(hm.kept hb);have hrun:=hm1.oK Gj Tryz.underlying351 (Tryz.zeroValue5 _) (k n);rw[HL.out] at hrun;have hlen1:=hm1.xg Tryz.underlying351 3 _ (lQ k (aK R n));obtain⟨w2,hput,hm2,hoth,hsz2,hbel⟩:=hm1.pW Gj Tryz.underlying351 (k n) (.int .u8 ((aK R n).length:Nat));have hy0:=hx0.turn hoth (by omega);have hy1:=hx1.turn hoth (by omega);have hB2:=hB1.trans (hbel w.heap.size (by omega));have hlk:look (k n) (ou k (aK R n))=none:=HL.out;rw[jK _ _ _ hlk,←AX] at hm2;have hc:=(hy1.cell n).trans (fF _ n hlt);have hf:=hy1.free n;have hconv:=nK (aK R n).length (by omega); clear hoth hbel hsz2 hlk))
    go_roundw
    case rel =>
     refine⟨n+1,hlt,by go_num,hy0.other _ _ (by simp),?_,?_,by go_grown⟩
     ·have:=hy1.set n (.int .u8 ((aK R n).length:Nat))
      rw[uq,fK (g:=fun b=>if b<n+1 then bf R b else 0) (nM HN.out)] at this
      exact this
     ·rw[HE.out];exact hm2.other _ _ (by simp)
    case measure=>simp[intOf];omega
  ·obtain rfl:n=256:=by omega
   have hlen1:=hm.xg Tryz.underlying351 3 _ (lQ k (aK R 256))
   rw[fK (g:=bf R) (fun i hi=>if_pos hi)] at hb1
   go_wp2_with (first | (refine wpList_load_row rfl 22 (.tmp 4) rfl (w.heap.size+1) rfl _ _ _ _ hb1 Tryz.underlying22 rfl (bG _) ?_) | (refine wpList_store_row rfl 22 (.tmp 2) (.tmp 35) rfl w.heap.size _ rfl rfl _ _ hb0 (bG _) (by rw[aO,aO]) (jl _) ?_))
   refine gI Tryz.results235 rfl rfl (hb0.setRow _) Tryz.underlying22 rfl (bG _) rfl ⟨?_,below_setRow hB (Nat.le_refl _) _⟩
   rw[oL];rfl
theorem NM:pV Tryz.prog 5 (fun n:Int=>Value.int .u8 n):=KF Tryz.underlying5
theorem VU(k:Nat→Int)(p:Value)(w:World)
  (hkey:∀ b:Nat,b<256→∀ w',Below w.heap.size w w'→Calls Tryz.prog 166 #[.int .i64 b,p] w' (bV w' (.int .u8 (k b)))) :
  Calls Tryz.prog 165 #[.func (.func 166) #[] #[p]] w (bV w (.tuple #[.agg (aT (bf (bH k))),.int .i64 (iZ (bH k):Nat)])):=by
 have E:=qY k
 have hz:=oQ
 have hmm:=@run_makeMap Tryz.prog
 have HK:=ah hkey
 clear hkey
 generalize hR:bH k=R at *
 have HR:=ah hR
 clear hR
 go_enter Tryz.func165,Tryz.ntmps165
 go_wp2
 go_loopw [11] (fun i wr=>∃ n:Nat,n≤256∧i=.int .i64 n∧Box wr w.heap.size (aT fun _=>0) 22∧Box wr (w.heap.size+1) (aT fun b=>if b<n then bf R b else 0) 22∧aG wr (w.heap.size+1+1) (fun n:Int=>Value.int .u8 n) (ou k (aK R n))∧Below w.heap.size w wr) (fun i _=>256 - (intOf i).toNat)
 case atStart =>
  refine⟨0,Nat.zero_le _,rfl,((Box.new' rfl _ _).alloc _).alloc _,?_,?_,by go_grown⟩
  ·rw[fK (g:=fun _=>0) (fun i _=>by simp)];exact(Box.new' (World.size_alloc _ _).symm _ _).alloc _
  ·rw[AZ];refine aG.new' ?_ _;simp
 case round =>
  obtain⟨n,hn,rfl,hb0,hb1,hm,hB⟩:=hrel
  by_cases hlt:n<256
  ·have hlook:=AY k n (aK R n)
   rw[HR.out] at hlook
   have hlen:=jZ R n
   cases hany:(aK R n).any (R n) with
   | true =>
    obtain⟨e1,e2⟩:=F6 E.refl hlt hany
    rw[e2] at hlook
    have HL:=ah hlook
    have HE:=ah e1
    clear hlook e1 e2 hany
    go_wp2_with (go_at_call 166;go_must (refine(HK.out n hlt _ hB).mono ?_;rintro e w1 ⟨rfl,hb⟩;have hB1:=(hB.trans (hb.mono hB.size));have hx0:=(hb0.kept hb);have hx1:=(hb1.kept hb);have hm1:=(hm.kept hb);have hrun:=hm1.oK NM Tryz.underlying300 (Tryz.zeroValue5 _) (k n);rw[HL.out] at hrun;have hc:=(hx1.cell n).trans (fF _ n hlt);have hf:=hx1.free n))
    go_roundw
    case rel =>
     refine⟨n+1,hlt,by go_num,hx0.other _ _ (by simp),?_,?_,by go_grown⟩
     ·have:=hx1.set n (.int .u8 (bf R n:Nat))
      rw[uq,fK (g:=fun b=>if b<n+1 then bf R b else 0) (nM rfl)] at this
      exact this
     ·rw[HE.out];exact hm1.other _ _ (by simp)
    case measure=>simp[intOf];omega
   | false =>
    obtain⟨e1,e2⟩:=F5 E.refl hlt hany
    rw[vK hany] at hlook
    have HL:=ah hlook
    have HE:=ah e1
    have HN:=ah e2
    clear hlook e1 e2 hany
    go_wp2_with (go_at_call 166;go_must (refine(HK.out n hlt _ hB).mono ?_;rintro e w1 ⟨rfl,hb⟩;have hB1:=(hB.trans (hb.mono hB.size));have hx0:=(hb0.kept hb);have hx1:=(hb1.kept hb);have hm1:=(hm.kept hb);have hrun:=hm1.oK NM Tryz.underlying300 (Tryz.zeroValue5 _) (k n);rw[HL.out] at hrun;have hlen1:=hm1.xg Tryz.underlying300 3 _ (lQ k (aK R n));obtain⟨w2,hput,hm2,hoth,hsz2,hbel⟩:=hm1.pW NM Tryz.underlying300 (k n) (.int .u8 ((aK R n).length:Nat));have hy0:=hx0.turn hoth (by omega);have hy1:=hx1.turn hoth (by omega);have hB2:=hB1.trans (hbel w.heap.size (by omega));have hlk:look (k n) (ou k (aK R n))=none:=HL.out;rw[jK _ _ _ hlk,←AX] at hm2;have hc:=(hy1.cell n).trans (fF _ n hlt);have hf:=hy1.free n;have hconv:=nK (aK R n).length (by omega); clear hoth hbel hsz2 hlk))
    go_roundw
    case rel =>
     refine⟨n+1,hlt,by go_num,hy0.other _ _ (by simp),?_,?_,by go_grown⟩
     ·have:=hy1.set n (.int .u8 ((aK R n).length:Nat))
      rw[uq,fK (g:=fun b=>if b<n+1 then bf R b else 0) (nM HN.out)] at this
      exact this
     ·rw[HE.out];exact hm2.other _ _ (by simp)
    case measure=>simp[intOf];omega
  ·obtain rfl:n=256:=by omega
   have hlen1:=hm.xg Tryz.underlying300 3 _ (lQ k (aK R 256))
   rw[fK (g:=bf R) (fun i hi=>if_pos hi)] at hb1
   go_wp2_with (first | (refine wpList_load_row rfl 22 (.tmp 4) rfl (w.heap.size+1) rfl _ _ _ _ hb1 Tryz.underlying22 rfl (bG _) ?_) | (refine wpList_store_row rfl 22 (.tmp 2) (.tmp 35) rfl w.heap.size _ rfl rfl _ _ hb0 (bG _) (by rw[aO,aO]) (jl _) ?_))
   refine gI Tryz.results165 rfl rfl (hb0.setRow _) Tryz.underlying22 rfl (bG _) rfl ⟨?_,below_setRow hB (Nat.le_refl _) _⟩
   rw[oL];rfl
end
section
open Go.RowKit
theorem NP:pV Tryz.prog 100 (zx .i64):=by
 obtain⟨i,hi,_,hs,_⟩:=info_parts (P:=Tryz.prog) (e:=3) (z:=.int .i64 0) (size:=1) (bytes:=8) (by kernel_rfl)
 exact Tq Tryz.underlying100 Tryz.underlying3 hi (by kernel_rfl) hs
theorem VW(k:Nat→Int×Int)(p q:Value)(w:World)
  (hkey:∀ b:Nat,b<256→∀ w',Below w.heap.size w w'→Calls Tryz.prog 238 #[.int .i64 b,p,q] w' (bV w' (zx .i64 (k b)))) :
  Calls Tryz.prog 237 #[.func (.func 238) #[] #[p,q]] w (bV w (.tuple #[.agg (aT (bf (bH k))),.int .i64 (iZ (bH k):Nat)])):=by
 have E:=qY k
 have hz:=oQ
 have hmm:=@run_makeMap Tryz.prog
 have HK:=ah hkey
 clear hkey
 generalize hR:bH k=R at *
 have HR:=ah hR
 clear hR
 go_enter Tryz.func237,Tryz.ntmps237
 go_wp2
 go_loopw [11] (fun i wr=>∃ n:Nat,n≤256∧i=.int .i64 n∧Box wr w.heap.size (aT fun _=>0) 22∧Box wr (w.heap.size+1) (aT fun b=>if b<n then bf R b else 0) 22∧aG wr (w.heap.size+1+1) (zx .i64) (ou k (aK R n))∧Below w.heap.size w wr) (fun i _=>256 - (intOf i).toNat)
 case atStart =>
  refine⟨0,Nat.zero_le _,rfl,((Box.new' rfl _ _).alloc _).alloc _,?_,?_,by go_grown⟩
  ·rw[fK (g:=fun _=>0) (fun i _=>by simp)];exact(Box.new' (World.size_alloc _ _).symm _ _).alloc _
  ·rw[AZ];refine aG.new' ?_ _;simp
 case round =>
  obtain⟨n,hn,rfl,hb0,hb1,hm,hB⟩:=hrel
  by_cases hlt:n<256
  ·have hlook:=AY k n (aK R n)
   rw[HR.out] at hlook
   have hlen:=jZ R n
   cases hany:(aK R n).any (R n) with
   | true =>
    obtain⟨e1,e2⟩:=F6 E.refl hlt hany
    rw[e2] at hlook
    have HL:=ah hlook
    have HE:=ah e1
    clear hlook e1 e2 hany
    go_wp2_with (go_at_call 238;go_must (refine(HK.out n hlt _ hB).mono ?_;rintro e w1 ⟨rfl,hb⟩;have hB1:=Below.alloc (hB.trans (hb.mono hB.size)) (by have:=hb0.lt;have:=hb.size;omega) (.cells #[.int .i64 (k n).1,.int .i64 (k n).2] 100);have hx0:=(hb0.kept hb).alloc (.cells #[.int .i64 (k n).1,.int .i64 (k n).2] 100);have hx1:=(hb1.kept hb).alloc (.cells #[.int .i64 (k n).1,.int .i64 (k n).2] 100);have hm1:=(hm.kept hb).alloc (.cells #[.int .i64 (k n).1,.int .i64 (k n).2] 100);have hrun:=hm1.oK NP Tryz.underlying352 (Tryz.zeroValue5 _) (k n);rw[HL.out] at hrun;have hc:=(hx1.cell n).trans (fF _ n hlt);have hf:=hx1.free n))
    go_roundw
    case rel =>
     refine⟨n+1,hlt,by go_num,hx0.other _ _ (by simp),?_,?_,by go_grown⟩
     ·have:=hx1.set n (.int .u8 (bf R n:Nat))
      rw[uq,fK (g:=fun b=>if b<n+1 then bf R b else 0) (nM rfl)] at this
      exact this
     ·rw[HE.out];exact hm1.other _ _ (by simp)
    case measure=>simp[intOf];omega
   | false =>
    obtain⟨e1,e2⟩:=F5 E.refl hlt hany
    rw[vK hany] at hlook
    have HL:=ah hlook
    have HE:=ah e1
    have HN:=ah e2
    clear hlook e1 e2 hany
    go_wp2_with (go_at_call 238;go_must (refine(HK.out n hlt _ hB).mono ?_;rintro e w1 ⟨rfl,hb⟩;have hB1:=Below.alloc (hB.trans (hb.mono hB.size)) (by have:=hb0.lt;have:=hb.size;omega) (.cells #[.int .i64 (k n).1,.int .i64 (k n).2] 100);have hx0:=(hb0.kept hb).alloc (.cells #[.int .i64 (k n).1,.int .i64 (k n).2] 100);have hx1:=(hb1.kept hb).alloc (.cells #[.int .i64 (k n).1,.int .i64 (k n).2] 100);have hm1:=(hm.kept hb).alloc (.cells #[.int .i64 (k n).1,.int .i64 (k n).2] 100);have hrun:=hm1.oK NP Tryz.underlying352 (Tryz.zeroValue5 _) (k n);rw[HL.out] at hrun;have hlen1:=hm1.xg Tryz.underlying352 3 _ (lQ k (aK R n));obtain⟨w2,hput,hm2,hoth,hsz2,hbel⟩:=hm1.pW NP Tryz.underlying352 (k n) (.int .u8 ((aK R n).length:Nat));have hy0:=hx0.turn hoth (by omega);have hy1:=hx1.turn hoth (by omega);have hB2:=hB1.trans (hbel w.heap.size (by omega));have hlk:look (k n) (ou k (aK R n))=none:=HL.out;rw[jK _ _ _ hlk,←AX] at hm2;have hc:=(hy1.cell n).trans (fF _ n hlt);have hf:=hy1.free n;have hconv:=nK (aK R n).length (by omega);have amU:=((Box.new w1 #[.int .i64 (k n).1,.int .i64 (k n).2] 100).turn hoth (by have:=hm.lt;have:=hb.size;omega)).cell 0;have amV:=((Box.new w1 #[.int .i64 (k n).1,.int .i64 (k n).2] 100).turn hoth (by have:=hm.lt;have:=hb.size;omega)).cell 1;clear hoth hbel hsz2 hlk))
    go_roundw
    case rel =>
     refine⟨n+1,hlt,by go_num,hy0.other _ _ (by simp),?_,?_,by go_grown⟩
     ·have:=hy1.set n (.int .u8 ((aK R n).length:Nat))
      rw[uq,fK (g:=fun b=>if b<n+1 then bf R b else 0) (nM HN.out)] at this
      exact this
     ·rw[HE.out];exact hm2.other _ _ (by simp)
    case measure=>simp[intOf];omega
  ·obtain rfl:n=256:=by omega
   have hlen1:=hm.xg Tryz.underlying352 3 _ (lQ k (aK R 256))
   rw[fK (g:=bf R) (fun i hi=>if_pos hi)] at hb1
   go_wp2_with (first | (refine wpList_load_row rfl 22 (.tmp 4) rfl (w.heap.size+1) rfl _ _ _ _ hb1 Tryz.underlying22 rfl (bG _) ?_) | (refine wpList_store_row rfl 22 (.tmp 2) (.tmp 35) rfl w.heap.size _ rfl rfl _ _ hb0 (bG _) (by rw[aO,aO]) (jl _) ?_))
   refine gI Tryz.results237 rfl rfl (hb0.setRow _) Tryz.underlying22 rfl (bG _) rfl ⟨?_,below_setRow hB (Nat.le_refl _) _⟩
   rw[oL];rfl
end
section
open Go.RowKit
def RL(l:List ay)(b c:Nat):Bool:=l.all fun s=>mem s b==mem s c
theorem acM(l:List ay):xH (RL l):=by
 refine⟨fun b=>by simp[RL],fun{b c} h=>?_,fun{b c d} h k=>?_⟩ <;> simp only[RL,List.all_eq_true,beq_iff_eq] at *
 ·exact fun s hs=>(h s hs).symm
 ·exact fun s hs=>(h s hs).trans (k s hs)
theorem Ry(l:List ay)(s:ay)(b c:Nat):RL (l++[s]) b c=(RL l b c&&(mem s b==mem s c)):=by simp[RL]
def vO(R:Nat→Nat→Bool)(s:ay)(b:Nat):Int×Int:=((bf R b:Nat),if mem s b then 1 else 0)
theorem EX{R:Nat→Nat→Bool}(E:xH R)(s:ay){b c:Nat}(hb:b<256)(hc:c<256):bH (vO R s) b c=(R b c&&(mem s b==mem s c)):=by
 rw[Bool.eq_iff_iff]
 simp only[bH,vO,decide_eq_true_eq,Prod.mk.injEq,Bool.and_eq_true,beq_iff_eq]
 rw[show(((bf R b:Nat):Int)=((bf R c:Nat):Int))↔bf R b=bf R c by omega,Rt E hb hc]
 cases mem s b <;> cases mem s c <;> simp
theorem VX(b:Nat)(w:World):Calls Tryz.prog 236 #[.int .i64 b] w (bV w (.bool true)):=by
 go_enter Tryz.func236,Tryz.ntmps236
 go_wp2
 go_ret
 exact⟨rfl,by go_grown⟩
theorem VY(R:Nat→Nat→Bool)(E:xH R)(s:ay)(p q b:Nat)(w:World)(hb:b<256)(hp:Box w p (dX s) 149)(hq:Box w q (aT (bf R)) 22) :
  Calls Tryz.prog 238 #[.int .i64 b,.pointer (some ⟨p,0,none⟩),.pointer (some ⟨q,0,none⟩)] w (bV w (zx .i64 (vO R s b))):=by
 obtain⟨⟨r0,r1,r2,r3⟩,_⟩:=hp.FY
 have hlt:=Tt E.refl hb
 have l1:=hp.lt
 have l2:=hq.lt
 have hwr:=nK b hb
 cases hm:mem s b with
 | true =>
  have HM:=ah hm
  clear hm
  go_enter Tryz.func238,Tryz.ntmps238
  go_wp2_with (go_at_call 239;go_must (refine(Gh _ _ _ hb).mono ?_;rintro e w1 ⟨rfl,hB⟩;rw[HM.out];have hc1:=(((hq.alloc _).kept hB).cell b).trans (fF _ b hb);have hx0:=(Box.new _ _ _).kept hB;have hx1:=hx0.cell 0;have hx2:=hx0.cell 1;have hx3:=hx0.free 0;have hx4:=hx0.free 1))
  refine eU Tryz.results238 rfl ((hx0.set 0 _).set 1 _) Tryz.underlying100 rfl (by kernel_rfl) rfl ⟨?_,by have hB1:=((Below.refl w.heap.size w).alloc (Nat.le_refl _) _).trans (hB.mono (by simp));go_grown⟩
  unfold vO;rw[HM.out];rfl
 | false =>
  have HM:=ah hm
  clear hm
  go_enter Tryz.func238,Tryz.ntmps238
  go_wp2_with (go_at_call 239;go_must (refine(Gh _ _ _ hb).mono ?_;rintro e w1 ⟨rfl,hB⟩;rw[HM.out];have hc1:=(((hq.alloc _).kept hB).cell b).trans (fF _ b hb);have hx0:=(Box.new _ _ _).kept hB;have hx1:=hx0.cell 0;have hx2:=hx0.cell 1;have hx3:=hx0.free 0;have hx4:=hx0.free 1))
  refine eU Tryz.results238 rfl ((hx0.set 0 _).set 1 _) Tryz.underlying100 rfl (by kernel_rfl) rfl ⟨?_,by have hB1:=((Below.refl w.heap.size w).alloc (Nat.le_refl _) _).trans (hB.mono (by simp));go_grown⟩
  unfold vO;rw[HM.out];rfl
theorem Y6(a:Option Addr)(cap:Nat)(l:List ay)(w:World)(h:ak w (.slice a l.length cap) 4 encS l) :
  Calls Tryz.prog 196 #[.slice a l.length cap] w (bV w (.tuple #[.agg (aT (bf (RL l))),.int .i64 (iZ (RL l):Nat)])):=by
 obtain⟨b,o,hlen,hcap,hcap',ha,hbl,hcell⟩:=h.sets
 clear hlen h hbl
 have hz:=oQ
 have HC:=ah hcell
 clear hcell
 go_enter Tryz.func196,Tryz.ntmps196
 go_wp2_with (first | (refine jk rfl 22 (.tmp 4) (.tmp 11) rfl _ _ rfl rfl rfl (bG _) (by rw[aO,aO]) (jl _) ?_) | (go_at_call 235;go_must (refine(Qy (fun _=>true) _ (fun b hb w' _=>VX b w')).mono ?_;rintro e w1 ⟨rfl,hB⟩)))
 have hx0:=(Box.new' (w:=w) rfl (aT fun _=>0) 22).kept hB
 have hB1:=((Below.refl w.heap.size w).alloc (Nat.le_refl _) _).trans (hB.mono (by simp))
 have hsz:w.heap.size<w1.heap.size:=hx0.lt
 have e0:aT (bf (bH fun _=>true))=aT (bf (RL [])):=fK fun i hi=>Hr (fun _ _ _ _=>by simp[bH,RL]) hi
 have e1:iZ (bH fun _=>true)=iZ (RL []):=Ht (fun _ _ _ _=>by simp[bH,RL])
 rw[e0,e1]
 clear e0 e1
 generalize hq:w1.heap.size=q
 go_loopw [5,15] (fun n i wr=>∃ j:Nat,j≤l.length∧i=.int .i64 j∧n=.int .i64 (iZ (RL (l.take j)):Nat)∧Box wr w.heap.size (aT fun _=>0) 22∧Box wr q (aT (bf (RL (l.take j)))) 22∧Below w.heap.size w wr) (fun _ i _=>l.length - (intOf i).toNat)
 case atStart =>
  subst hq
  exact⟨0,Nat.zero_le _,rfl,rfl,hx0.alloc _,Box.new _ _ _,by go_grown⟩
 case round =>
  obtain⟨j,hj,rfl,rfl,hb0,hb1,hB2⟩:=hrel
  by_cases hlt:j<l.length
  ·obtain rfl:=ha j hlt
   obtain⟨c0,c1,c2,c3⟩:=HC.out j hlt wr hB2
   have e2:l.take (j+1)=l.take j++[l[j]]:=List.take_succ_eq_append_getElem hlt
   have HE:=ah e2
   clear e2 ha
   generalize l[j]=s at *
   have hR:=acM (l.take j)
   have aiR:=hb0.lt
   have hb1':=hb1.lt
   go_wp2_with (first | (refine wpList_load_row rfl 22 (.tmp 4) rfl q rfl _ _ _ _ (hb1.alloc _) Tryz.underlying22 rfl (bG _) ?_) | (refine jk rfl 22 (.tmp 8) (.tmp 19) rfl _ _ rfl rfl (by simp) (bG _) (by rw[aO,aO]) (jl _) ?_) | (refine wpList_store_row rfl 22 (.tmp 4) (.tmp 23) rfl q _ rfl rfl _ _ hx1 (bG _) (by rw[aO,aO]) (jl _) ?_) | (go_at_call 237;go_must (refine(VW (vO (RL (l.take j)) s) _ _ _ (fun b hb w' hB'=>VY (RL (l.take j)) hR s _ _ b w' hb (((Box.new' rfl _ _).alloc _).kept hB') ((Box.new' (World.size_alloc _ _).symm _ _).kept hB'))).mono ?_;rintro e w2 ⟨rfl,hB3⟩;have hx0:=((hb0.alloc _).alloc _).kept hB3;have hx1:=((hb1.alloc _).alloc _).kept hB3;have hB4:=((hB2.alloc (Nat.le_of_lt aiR) _).alloc (by simp;omega) _).trans (hB3.mono (by simp;omega)))))
   have eA:aT (bf (bH (vO (RL (l.take j)) s)))=aT (bf (RL (l.take (j+1)))):=fK fun i hi=>Hr (fun b c hb hc=>by rw[EX hR s hb hc,HE.out,Ry]) hi
   have eB:iZ (bH (vO (RL (l.take j)) s))=iZ (RL (l.take (j+1))):=Ht (fun b c hb hc=>by rw[EX hR s hb hc,HE.out,Ry])
   rw[eA,eB]
   go_roundw
   case rel=>exact⟨j+1,hlt,by go_num,rfl,hx0.setRow_other _ (by omega),hx1.setRow _,below_setRow hB4 (by omega) _⟩
   case measure=>simp[intOf];omega
  ·obtain rfl:j=l.length:=by omega
   rw[List.take_length] at hb1 ⊢
   go_wp2_with (first | (refine wpList_load_row rfl 22 (.tmp 4) rfl q rfl _ _ _ _ hb1 Tryz.underlying22 rfl (bG _) ?_) | (refine wpList_store_row rfl 22 (.tmp 2) (.tmp 26) rfl w.heap.size _ rfl rfl _ _ hb0 (bG _) (by rw[aO,aO]) (jl _) ?_))
   exact gI Tryz.results196 rfl rfl (hb0.setRow _) Tryz.underlying22 rfl (bG _) rfl ⟨rfl,below_setRow hB2 (Nat.le_refl _) _⟩
end
section
open Go.RowKit
def eu(f:Nat→Nat)(b:Nat):Int:=(f b:Nat)
theorem Qz(f:Nat→Nat)(p b:Nat)(w:World)(hb:b<256)(hp:Box w p (aT f) 22) :
  Calls Tryz.prog 166 #[.int .i64 b,.pointer (some ⟨p,0,none⟩)] w (bV w (.int .u8 (eu f b))):=by
 have hc:=(hp.cell b).trans (fF _ b hb)
 go_enter Tryz.func166,Tryz.ntmps166
 go_wp2
 go_ret
 exact⟨rfl,by go_grown⟩
theorem Bd(f:Nat→Nat)(w:World) :
  Calls Tryz.prog 124 #[.agg (aT f)] w (bV w (.tuple #[.agg (aT (bf (bH (eu f)))),.int .i64 (iZ (bH (eu f)):Nat)])):=by
 have hz:=oQ
 go_enter Tryz.func124,Tryz.ntmps124
 go_wp2_with (first | (refine wpList_store_row rfl 22 (.tmp 2) (.tmp 6) rfl _ _ rfl rfl _ _ hx1 (bG _) (wO _ _) (jl _) ?_) | (go_at_call 165;go_must (refine(VU (eu f) _ _ (fun b hb w' hB'=>Qz f w.heap.size b w' hb (((Box.new' rfl _ _).alloc _).kept hB'))).mono ?_;rintro e w1 ⟨rfl,hB⟩;have hx1:=(Box.new' (w:=w.alloc (.cells (aT f) 22)) (World.size_alloc _ _).symm (aT fun _=>0) 22).kept hB)))
 have hB1:=(((Below.refl w.heap.size w).alloc (Nat.le_refl _) (.cells (aT f) 22)).alloc (by simp) (.cells (aT fun _=>0) 22)).trans (hB.mono (by simp;omega))
 exact gI Tryz.results124 rfl rfl (hx1.setRow _) Tryz.underlying22 rfl (bG _) rfl ⟨rfl,below_setRow hB1 (by simp) _⟩
theorem QA(f:Nat→Nat)(n:Int)(w:World) :
  Calls Tryz.prog 83 #[.agg (aT f),.int .i64 n] w (bV w (.bool (nN (bf (bH (eu f))) f&&((iZ (bH (eu f)):Nat)==n)))):=by
 have hz:=oQ
 have hq:=VH (P:=Tryz.prog) (t:=22) (e:=5) Tryz.underlying22 Tryz.underlying5 (by kernel_rfl) (bf (bH (eu f))) f
 have hsz:∀ w1:World,Below (w.alloc (.cells (aT f) 22)).heap.size (w.alloc (.cells (aT f) 22)) w1→Below w.heap.size w (w1.alloc (.cells (aT (bf (bH (eu f)))) 22)):=fun w1 hB=>(((Below.refl w.heap.size w).alloc (Nat.le_refl _) _).trans (hB.mono (by go_size))).alloc (by have:=hB.size;simp at this;omega) _
 have HS:=ah hsz
 clear hsz
 cases hs:nN (bf (bH (eu f))) f with
 | true =>
  rw[hs] at hq
  clear hs
  go_enter Tryz.func83,Tryz.ntmps83
  go_wp2_with (first | (refine wpList_load_row rfl 22 (.tmp 2) rfl _ rfl _ _ _ _ (Box.new _ _ _) Tryz.underlying22 rfl (bG _) ?_) | (refine jk rfl 22 (.tmp 5) (.tmp 10) rfl _ _ rfl rfl rfl (bG _) (wO _ _) (jl _) ?_) | (go_at_call 124;go_must (refine(Bd f _).mono ?_;rintro e w1 ⟨rfl,hB⟩;have hx0:=(Box.new w (aT f) 22).kept hB)) | (refine wpList_load_row rfl 22 (.tmp 5) rfl _ rfl _ _ _ _ (Box.new _ _ _) Tryz.underlying22 rfl (bG _) ?_) | (refine wpList_load_row rfl 22 (.tmp 2) rfl _ rfl _ _ _ _ (hx0.alloc _) Tryz.underlying22 rfl (bG _) ?_))
  go_ret
  exact⟨rfl,HS.out _ hB⟩
 | false =>
  rw[hs] at hq
  clear hs
  go_enter Tryz.func83,Tryz.ntmps83
  go_wp2_with (first | (refine wpList_load_row rfl 22 (.tmp 2) rfl _ rfl _ _ _ _ (Box.new _ _ _) Tryz.underlying22 rfl (bG _) ?_) | (refine jk rfl 22 (.tmp 5) (.tmp 10) rfl _ _ rfl rfl rfl (bG _) (wO _ _) (jl _) ?_) | (go_at_call 124;go_must (refine(Bd f _).mono ?_;rintro e w1 ⟨rfl,hB⟩;have hx0:=(Box.new w (aT f) 22).kept hB)) | (refine wpList_load_row rfl 22 (.tmp 5) rfl _ rfl _ _ _ _ (Box.new _ _ _) Tryz.underlying22 rfl (bG _) ?_) | (refine wpList_load_row rfl 22 (.tmp 2) rfl _ rfl _ _ _ _ (hx0.alloc _) Tryz.underlying22 rfl (bG _) ?_))
  go_ret
  exact⟨rfl,HS.out _ hB⟩
end
section
open Go.RowKit
theorem NQ:dQ Tryz.prog 227 149 (.agg #[.int .u64 0,.int .u64 0,.int .u64 0,.int .u64 0]) 4 32 :=
 ⟨Tryz.underlying227,info_parts (by kernel_rfl),rfl,by decide⟩
end
section
open Go.RowKit
def kF(R:Nat→Nat→Bool)(n:Nat):List ay:=(aK R 256).map (cls R n)
theorem kS(R:Nat→Nat→Bool)(n:Nat):(kF R n).length=iZ R:=by rw[kF,List.length_map,oL]
theorem QB(R:Nat→Nat→Bool):kF R 0=List.replicate (iZ R) 0:=by
 rw[kF,oL,←List.map_const']
 refine List.map_congr_left fun c _=>zT fun b hb=>?_
 rw[uw,Nl];simp
theorem QC{R:Nat→Nat→Bool}(E:xH R){n:Nat}(hn:n<256)(hk:bf R n<(kF R n).length) :
  kF R (n+1)=(kF R n).set (bf R n) ((kF R n)[bf R n] ||| qW [n]):=by
 have hlen:=kS R n
 refine List.ext_getElem (by rw[List.length_set,kS,kS]) fun i h1 h2=>?_
 rw[List.getElem_set]
 have hi:i<(aK R 256).length:=by rw[kS,oL] at h1;exact h1
 have hrep:(aK R 256)[i]<256:=lN R 256 _ (List.getElem_mem hi)
 have hone:∀ c,mem (qW [n]) c=decide (n=c):=fun c=>by
  rw[Ro _ _ (by intro x hx;simp at hx;omega)];simp[eq_comm]
 have hnum:bf R (aK R 256)[i]=i:=by
  have h3:=F7 (R:=R) (b:=(aK R 256)[i]) hi (E.refl _) (fun j hj=>by
   cases h:R (aK R 256)[i] ((aK R 256)[j]'(by omega)) with
   | false=>rfl
   | true =>
    have hs:=uQ R 256 j i hj hi
    have:=rW E 256 (aK R 256)[i] ((aK R 256)[j]'(by omega)) (List.getElem_mem hi) hs
    rw[this] at h;cases h)
  unfold bf;rw[h3];rfl
 have hiff:=Rt E hrep hn
 rw[hnum] at hiff
 simp only[kF,List.getElem_map]
 by_cases hki:bf R n=i
 ·rw[if_pos hki]
  subst hki
  have hR:=hiff.1 rfl
  refine zT fun c hc=>?_
  rw[He,uw,uw,hone]
  by_cases hcn:n=c
  ·subst hcn;simp[hc,hR]
  ·have:(c<n+1)↔(c<n):=by omega
   simp[hcn,this]
 ·rw[if_neg hki]
  have hR:R (aK R 256)[i] n=false:=by
   cases h:R (aK R 256)[i] n with
   | false=>rfl
   | true=>exact absurd (hiff.2 h).symm hki
  refine zT fun c hc=>?_
  rw[uw,uw]
  by_cases hcn:c=n
  ·subst hcn;simp[hR]
  ·have:(c<n+1)↔(c<n):=by omega
   simp[this]
def uU(G:Nat→Nat)(B p g m:Nat)(w:World)(L:List ay)(w':World):Prop :=
 Box w' p (aT G) 22∧Own w' B 149 4 encS (.slice (some ⟨g,0,none⟩) m m) L∧Below B w w'∧p<g∧B≤g
theorem uU.kept{G:Nat→Nat}{B p g m:Nat}{w w1 w2:World}{L:List ay}(h:uU G B p g m w L w1)(hb:Below w1.heap.size w1 w2)(hB:B≤w1.heap.size):uU G B p g m w L w2 :=
 ⟨h.1.kept hb,h.2.1.kept hb,h.2.2.1.trans (hb.mono hB),h.2.2.2⟩
theorem TL(f:Nat→Nat)(w:World) :
  Calls Tryz.prog 150 #[.agg (aT f)] w (gu w 149 4 encS (kF (bH (eu f)) 256)):=by
 have hz:=oQ
 have hE:=qY (eu f)
 have hN:=Bd f
 have hm:=JL (bH (eu f))
 have hlt:=fun n (hn:n<256)=>JK hE.refl hn
 have h0:=QB (bH (eu f))
 have hs:=fun n (hn:n<256) hk=>QC hE (n:=n) hn hk
 have hl:=kS (bH (eu f))
 generalize kF (bH (eu f))=L at *
 generalize bf (bH (eu f))=G at *
 generalize iZ (bH (eu f))=m at *
 have HN:=ah hN
 have H0:=ah h0
 have HS:=ah hs
 have HL:=ah hl
 have HG:=ah hlt
 clear hN h0 hs hl hlt hE
 go_enter Tryz.func150,Tryz.ntmps150
 go_wp2_with (first | (refine wpList_load_row rfl 22 (.tmp 1) rfl _ rfl _ _ _ _ (Box.new _ _ _) Tryz.underlying22 rfl (bG _) ?_) | (refine jk rfl 22 (.tmp 3) (.tmp 11) rfl _ _ rfl rfl rfl (bG _) (wO _ _) (jl _) ?_) | (go_at_call 124;go_must (refine(HN.out _).mono ?_;rintro e w1 ⟨rfl,hB⟩)) | (refine oJ rfl 227 _ _ rfl NQ zU 0 rfl m rfl rfl (by omega) (by simp[maxLen];omega) w.heap.size (by have:=hB.size;simp at this ⊢;omega) ?_;intro w2 ho adK;have HW:=ah adK;clear adK))
 have hw2:=HW.out
 rw[World.size_alloc] at ho
 have hx1:Box w2 w1.heap.size (aT G) 22:=by rw[hw2];exact(Box.new w1 _ _).alloc _
 have hB2:Below w.heap.size w w2:=by
  rw[hw2]
  exact(((((Below.refl w.heap.size w).alloc (Nat.le_refl _) _).trans (hB.mono (by simp))).alloc (by have:=hB.size;simp at this;omega) _).alloc (by have:=hB.size;simp at this ⊢;omega) _)
 have hp:w.heap.size≤w1.heap.size:=by have:=hB.size;simp at this;omega
 have hJ:uU G w.heap.size w1.heap.size (w1.heap.size+1) m w (L 0) w2:=⟨hx1,by rw[H0.out];exact ho,hB2,by omega,by omega⟩
 clear hw2 hx1 hB2 ho hB HW
 generalize w1.heap.size=p at *
 go_loopw [15] (fun i wr=>∃ n:Nat,n≤256∧i=.int .i64 n∧uU G w.heap.size p (p+1) m w (L n) wr) (fun i _=>256 - (intOf i).toNat)
 case atStart=>exact⟨0,Nat.zero_le _,rfl,hJ⟩
 case round =>
  clear hJ
  obtain⟨n,hn,rfl,hJ⟩:=hrel
  by_cases hlt:n<256
  ·have c0:=(hJ.1.cell n).trans (fF _ n hlt)
   have hk:=HG.out n hlt
   have hkl:G n<(L n).length:=by rw[HL.out];exact hk
   have e1:=HS.out n hlt hkl
   have HE:=ah e1
   have hof:=fun a cap w h=>Rx a cap [n] w h (by intro x hx;simp at hx;omega)
   have hcell:=fun w1 (h:uU G w.heap.size p (p+1) m w (L n) w1)=>h.2.1.cells4 hkl
   clear e1
   generalize (L n)[G n]=s at *
   have hcell2:∀ w1,uU G w.heap.size p (p+1) m w (L n) w1→_:=hcell
   generalize qW [n]=s1 at *
   have hun:∀ ad cap w,ak w (.slice ad 2 cap) 4 encS [s,s1]→Calls Tryz.prog 199 #[.slice ad 2 cap] w (bV w (oH (s ||| s1))):=fun ad cap w h=>by have:=TJ ad cap [s,s1] w h;rwa[adG] at this
   generalize s ||| s1=t at *
   generalize G n=k at *
   have hJ0:uU G w.heap.size p (p+1) m w (L n) wr.drew:=hJ.kept (Below.refl _ _).drew (Nat.le_trans hJ.2.2.1.size (Nat.le_refl _))
   have hsz:w.heap.size≤wr.drew.heap.size:=hJ0.2.2.1.size
   have HF:Hid (∀ w1,Later wr.drew w1→uU G w.heap.size p (p+1) m w (L n) w1):=ah fun w1 hl=>hJ0.kept hl hsz
   have EY:=ah hof
   have HUN:=ah hun
   have HC:=ah hcell
   have hu8:IntKind.u8.wrap (n:Int)=(n:Int):=nK n hlt
   have hk0:(0:Int)≤(k:Int):=by omega
   have hkm:(k:Int)<(m:Int):=by omega
   clear hcell2 hcell hof hun hJ hJ0 hkl
   go_wp2_with fail
   refine aW (R:=Later) 13 (by kernel_rfl) ?_
   refine pl [0,1,2,3,4,5,6,7] ?_
   repeat
    refine jW ?_ rfl (fun w1 hl=>?_) ?_
    rotate_left
    ·have hJ:=HF.out w1 hl;obtain⟨⟨q0,q1,q2,q3⟩,_⟩:=HC.out w1 hJ;go_simp;try with_reducible rfl
    simp only[eA,eB,eC,Act.put,eD,eE,eF]
   refine eX ?_
   refine aQ (t:=13) (i:=8) (by kernel_rfl) rfl (fun w1 hl K hK=>?_)
   go_simp
   refine hK.out _ _ (fun _=>aj _ _) ?_
   have hL1:Later wr.drew (w1.alloc (.cells #[.int .u8 (n:Nat)] 5)):=Later.trans _ _ _ hl (aj _ _)
   have hs1:=Np w1 n 5
   clear hK K
   refine clM 9 ?_ ?_ ?_ rfl (fun w1=>?_) (fun w1 hl=>?_) ?_
   rotate_left 4
   ·exact EY.out _ _ _ (hs1.kept hl)
   rotate_left
   ·go_simp
   simp only[eA,eB,eC,Act.put,eD,eE,eF]
   refine aQ (t:=13) (i:=10) (by kernel_rfl) rfl (fun w1 hl K hK=>?_)
   go_simp
   refine hK.out _ _ (fun _=>aj _ _) ?_
   have hL2:=Later.trans _ _ _ hL1 (Later.trans _ _ _ hl (aj w1 (.cells #[.int .u64 (word s 0:Nat),.int .u64 (word s 1:Nat),.int .u64 (word s 2:Nat),.int .u64 (word s 3:Nat),.int .u64 (word s1 0:Nat),.int .u64 (word s1 1:Nat),.int .u64 (word s1 2:Nat),.int .u64 (word s1 3:Nat)] 149)))
   have hs2:=acH w1 s s1 149
   clear hK K
   refine clM 11 ?_ ?_ ?_ rfl (fun w1=>?_) (fun w1 hl=>?_) ?_
   rotate_left 4
   ·exact HUN.out _ _ _ (hs2.kept hl)
   rotate_left
   ·go_simp
   simp only[eA,eB,eC,Act.put,eD,eE,eF]
   refine kP 12 ?_ rfl (fun w1 hl=>?_) ?_
   rotate_left
   ·skip;go_simp;try with_reducible rfl
   simp only[eA,eB,eC,Act.put,eD,eE,eF]
   refine aQ (t:=13) (i:=13) (by kernel_rfl) rfl (fun w1 hl K hK=>?_)
   have hJ:=HF.out w1 (Later.trans _ _ _ hL2 hl)
   obtain⟨⟨q0,q1,q2,q3⟩,⟨f0,f1,f2,f3⟩⟩:=HC.out w1 hJ
   go_simp
   refine hK.out _ _ (fun h=>absurd rfl h) ?_
   clear hK K q0 q1 q2 q3 f0 f1 f2 f3
   have VZ:uU G w.heap.size p (p+1) m w (L (n+1)) ((((w1.setCell ⟨p+1,k*4,none⟩ (.int .u64 (word t 0:Nat))).setCell ⟨p+1,k*4+1,none⟩ (.int .u64 (word t 1:Nat))).setCell ⟨p+1,k*4+2,none⟩ (.int .u64 (word t 2:Nat))).setCell ⟨p+1,k*4+3,none⟩ (.int .u64 (word t 3:Nat))):=by
    obtain⟨j1,j2,j3,j4,j5⟩:=hJ
    refine⟨j1.YL (by omega) _ _ _ _,?_,Nq j3 j5 _ _ _ _,j4,j5⟩
    rw[HE.out]
    exact j2.zS (by rw[HL.out];exact hk) rfl t
   refine bC (by kernel_rfl) (fun w1 hl=>?_) _
   have hJ5:=VZ.kept hl (by have:=VZ.2.2.1.size;exact this)
   clear hJ VZ
   go_wp2
   go_roundw
   case rel=>exact⟨n+1,hlt,by go_num,hJ5⟩
   case measure=>simp[intOf];omega
  ·obtain rfl:n=256:=by omega
   go_wp2
   go_ret
   exact⟨some ⟨p+1,0,none⟩,m,by rw[HL.out];rfl,by rw[HL.out];exact hJ.2.1,hJ.2.2.1⟩
end
section
open Go.RowKit
end
section
open Go.RowKit
def aiS(g:Nat→Bool):Array Value:=((List.range 256).map fun i=>Value.bool (g i)).toArray
attribute [irreducible] aiS
end
section
open Go.RowKit
theorem V8(x a1 b1 a2 b2 c r:Nat)(w:World)
  (ha1:bits BinOp.and IntKind.u64 ((x:Int) / 2) 6148914691236517205=(a1:Int)) (hb1:bits BinOp.and IntKind.u64 (x:Int) 6148914691236517205=(b1:Int)) (h1:a1+b1<18446744073709551616)
  (ha2:bits BinOp.and IntKind.u64 (((a1:Int)+(b1:Int)) / 4) 3689348814741910323=(a2:Int)) (hb2:bits BinOp.and IntKind.u64 ((a1:Int)+(b1:Int)) 3689348814741910323=(b2:Int)) (h2:(a2+b2) / 16+(a2+b2)<18446744073709551616)
  (hc:bits BinOp.and IntKind.u64 (((a2:Int)+(b2:Int)) / 16+((a2:Int)+(b2:Int))) 1085102592571150095=(c:Int)) (h3:c≤578721382704613384)
  (hr:bits BinOp.and IntKind.i64 ((c:Int)+(c:Int) / 256+((c:Int)+(c:Int) / 256) / 65536+((c:Int)+(c:Int) / 256+((c:Int)+(c:Int) / 256) / 65536) / 4294967296) 127=(r:Int)) :
  Calls Tryz.prog 221 #[.int .u64 x] w fun e w'=>e=.returned (.int .i64 r)∧w'=w:=by
 go_enter Tryz.func221,Tryz.ntmps221
 go_wp2
 go_ret
 exact⟨rfl,rfl⟩
theorem Rz(x d M:Nat)(hx:x<18446744073709551616)(hM:M<18446744073709551616):bits BinOp.and IntKind.u64 ((x:Int) / (d:Int)) (M:Int)=((x / d &&& M:Nat):Int):=by
 rw[←Int.natCast_ediv];exact bits_and_u64_nat _ _ (Nat.lt_of_le_of_lt (Nat.div_le_self _ _) hx) hM
theorem adL(x:Nat)(hx:x<18446744073709551616)(w:World) :
  Calls Tryz.prog 221 #[.int .u64 x] w fun e w'=>e=.returned (.int .i64 ((iU x).length:Nat))∧w'=w:=by
 obtain⟨h3,hs⟩:=YT x
 have hp1:x / 2 &&& 6148914691236517205≤6148914691236517205:=Nat.and_le_right
 have hp2:x &&& 6148914691236517205≤6148914691236517205:=Nat.and_le_right
 have hq1:iM x / 4 &&& 3689348814741910323≤3689348814741910323:=Nat.and_le_right
 have hq2:iM x &&& 3689348814741910323≤3689348814741910323:=Nat.and_le_right
 have hb1:iM x<18446744073709551616:=by unfold iM;omega
 have hb2:kQ (iM x) / 16+kQ (iM x)<18446744073709551616:=by unfold kQ;omega
 have c1:(((x / 2 &&& 6148914691236517205:Nat):Int)+((x &&& 6148914691236517205:Nat):Int))=((iM x:Nat):Int):=by unfold iM;omega
 have c2:(((iM x / 4 &&& 3689348814741910323:Nat):Int)+((iM x &&& 3689348814741910323:Nat):Int))=((kQ (iM x):Nat):Int):=by unfold kQ;omega
 refine V8 x (x / 2 &&& 6148914691236517205) (x &&& 6148914691236517205) (iM x / 4 &&& 3689348814741910323) (iM x &&& 3689348814741910323) (uz (kQ (iM x))) _ w
  (Rz x 2 6148914691236517205 hx (by decide)) (bits_and_u64_nat x 6148914691236517205 hx (by decide)) hb1 ?_ ?_ hb2 ?_ h3 ?_
 ·rw[c1];exact Rz _ 4 3689348814741910323 hb1 (by decide)
 ·rw[c1];exact bits_and_u64_nat _ 3689348814741910323 hb1 (by decide)
 ·rw[c2,show((kQ (iM x):Nat):Int) / 16+((kQ (iM x):Nat):Int)=((kQ (iM x) / 16+kQ (iM x):Nat):Int) by omega]
  exact bits_and_u64_nat _ 1085102592571150095 hb2 (by decide)
 ·rw[i64_and127,←hs]
  generalize uz (kQ (iM x))=c
  omega
def CY(s:ay):Nat→Nat
 | 0=>0
 | j+1=>CY s j+(iU (word s j)).length
theorem RD(s:ay):∀ j,CY s j≤64*j
 | 0=>Nat.le_refl _
 | j+1=>by
  have h:=RD s j
  have h2:(iU (word s j)).length≤64:=by have:=List.length_filter_le (fun i=>(word s j).testBit i) (List.range 64);simpa [iU] using this
  simp only[CY];omega
theorem TM(s:ay):CY s 4=(elems s).length:=by
 rw[ET];simp[CY,wP,jq];omega
theorem Ia(s:ay)(w:World):Calls Tryz.prog 176 #[.agg (dX s)] w (bV w (.int .i64 ((elems s).length:Nat))):=by
 rw[←TM]
 go_enter Tryz.func176,Tryz.ntmps176
 go_wp2
 go_loopw [3,7] (fun n i wr=>∃ j:Nat,j≤4∧i=.int .i64 j∧n=.int .i64 (CY s j:Nat)∧Below w.heap.size w wr) (fun _ i _=>4 - (intOf i).toNat)
 case atStart=>exact⟨0,Nat.zero_le _,rfl,rfl,by go_grown⟩
 case round =>
  obtain⟨j,hj,rfl,rfl,hB⟩:=hrel
  by_cases hlt:j<4
  ·have gw:=CW s j hlt
   have hle:=RD s j
   have hO:=adL (word s j) (word_lt s j)
   have hst:CY s (j+1)=CY s j+(iU (word s j)).length:=rfl
   have hle2:(iU (word s j)).length≤64:=by have:=List.length_filter_le (fun i=>(word s j).testBit i) (List.range 64);simpa [iU] using this
   have HO:=ah hO
   clear hO
   generalize (iU (word s j)).length=m at *
   go_wp2_with (go_at_call 221;go_must (refine(HO.out _).mono ?_;rintro e w1 ⟨rfl,rfl⟩))
   go_roundw
   case rel=>exact⟨j+1,hlt,by go_num,by rw[hst];go_num,hB⟩
   case measure=>simp[intOf];omega
  ·obtain rfl:j=4:=by omega
   go_wp2
   go_ret
   exact⟨rfl,hB⟩
end
end Go.Proofs.YtbemonecmmnlcaaGreatDoor
