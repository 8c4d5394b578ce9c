/- The texts of N5, in few letters (mini.py). -/
import Derived.Test.YtengfapcaaacaaaGreatDoorM4
set_option linter.unusedVariables false
set_option linter.unusedSimpArgs false
set_option maxRecDepth 20000
set_option maxHeartbeats 1600000
namespace Go.Proofs.YtengfapcaaacaaaGreatDoor
section
open Go.RowKit
theorem Ji(s:au)(x:Nat)(w:World)(hx:x<256) :
  Calls Tryz.prog 200 #[iK s,.int .u8 x] w (aY w (.bool (mem s x))):=by
 have hxi:=yu s (x / 64) (by omega)
 have hz:=word_lt s (x / 64)
 go_enter Tryz.func200,Tryz.ntmps200
 go_wp2
 go_ret
 exact⟨congrArg (fun b=>Ending.returned (.bool b)) ((and_one _ _ hz).trans (DK s x).symm),by go_grown⟩
theorem Hw(a:Option Addr)(cap:Nat)(xs:List Nat)(w:World)(h:ak w (.slice a xs.length cap) 1 (fun x:Nat=>[.int .u8 x]) xs)(hx:∀ x∈xs,x<256) :
  Calls Tryz.prog 161 #[.slice a xs.length cap] w (aY w (iK (nM xs))):=by
 obtain⟨b,o,hlen,hcap,hcap',ha,hcell⟩:=h.open
 clear hlen h
 go_enter Tryz.func161,Tryz.ntmps161
 go_wp2
 go_loopw [8] (fun i wr=>∃ k:Nat,k≤xs.length∧i=.int .i64 k∧Box wr w.heap.size (bT 0) 113∧Box wr (w.heap.size+1) (bT (nM (xs.take k))) 113∧Below w.heap.size w wr) (fun i _=>xs.length - (intOf i).toNat)
 case atStart =>
  refine⟨0,Nat.zero_le _,rfl,?_,?_,by go_grown⟩
  ·rw[gG];exact(Box.new' rfl _ _).alloc _
  ·rw[List.take_zero,show nM []=0 from rfl,gG];exact Box.new' (World.size_alloc _ _).symm _ _
 case round =>
  obtain⟨k,hk,rfl,hb0,hb1,hB⟩:=hrel
  by_cases hlt:k<xs.length
  ·obtain rfl:=ha k hlt
   have hxk:=hx xs[k] (List.getElem_mem hlt)
   have hc:wr.cell? ⟨b,o+k,none⟩=some (.int .u8 (xs[k]:Nat)):=by
    have:=hcell k hlt 0 _ rfl
    rw[hB.cell (World.block_lt_of_cell? w _ (by simpa using this))];simpa using this
   have e1:wr.cell? ⟨w.heap.size+1,xs[k] / 64,none⟩=some (.int .u64 (word (nM (xs.take k)) (xs[k] / 64):Nat)):=by
    rw[hb1.cell];simpa using yu _ _ (by omega)
   have e2:=hb1.free (xs[k] / 64)
   have e3:nM (xs.take (k+1))=nP (nM (xs.take k)) xs[k]:=by rw[List.take_succ_eq_append_getElem hlt,aby]
   have e4:=ah e3
   clear e3 ha hcell hx
   generalize xs[k]=x at *
   have hw:=word_lt (nM (xs.take k)) (x / 64)
   go_wp2
   go_roundw
   case rel =>
    refine⟨k+1,hlt,by go_num,hb0.other _ _ (by simp),?_,by go_grown⟩
    rw[e4.out,or_bit _ _ hw (Nat.mod_lt _ (by decide)),←J6 _ _ hxk]
    exact hb1.set _ _
   case measure=>simp[intOf];omega
  ·have hke:k=xs.length:=by omega
   subst hke
   obtain⟨⟨p0,p1,p2,p3⟩,⟨q0,q1,q2,q3⟩⟩:=hb0.jv
   obtain⟨⟨r0,r1,r2,r3⟩,_⟩:=hb1.jv
   rw[List.take_length] at r0 r1 r2 r3
   clear hb1 ha hcell
   go_wp2
   exact cZ Tryz.results161 rfl (hb0.eG rfl _ _ _ _) Tryz.underlying113 rfl (by kernel_rfl) rfl ⟨rfl,by go_grown⟩
theorem Vq(s:au)(x:Nat)(w:World)(hx:x<256) :
  Calls Tryz.prog 166 #[iK s,.int .i64 x] w (aY w (.bool (mem s x))):=by
 have hxi:=yu s (x / 64) (by omega)
 have hz:=word_lt s (x / 64)
 go_enter Tryz.func166,Tryz.ntmps166
 go_wp2
 go_ret
 exact⟨congrArg (fun b=>Ending.returned (.bool b)) ((and_one _ _ hz).trans (DK s x).symm),by go_grown⟩
theorem abQ(s:au)(x:Nat)(w:World)(hx:x<256) :
  Calls Tryz.prog 165 #[iK s,.int .i64 x] w (aY w (iK (nP s x))):=by
 have hxi:=yu s (x / 64) (by omega)
 have hst:=WB s x hx
 go_enter Tryz.func165,Tryz.ntmps165
 go_wp2
 exact cZ Tryz.results165 rfl (Box.new' (World.size_alloc _ _).symm _ _) Tryz.underlying113 rfl (by kernel_rfl) rfl ⟨rfl,by go_grown⟩
theorem KC(n:Nat)(w:World)(h:n≤64) :
  Calls Tryz.prog 300 #[.int .i64 n] w (aY w (.int .u64 ((2 ^ n - 1:Nat):Int))):=by
 by_cases hn:64≤n
 ·obtain rfl:n=64:=by omega
  go_enter Tryz.func300,Tryz.ntmps300
  go_wp2
  go_ret
  exact⟨rfl,by go_grown⟩
 ·go_enter Tryz.func300,Tryz.ntmps300
  go_wp2
  go_ret
  refine⟨?_,by go_grown⟩
  refine congrArg (fun z=>Ending.returned (.int .u64 z)) ?_
  have h1:=zN n (by omega)
  have h2:0<2 ^ n:=Nat.two_pow_pos n
  rw[wrap_two_pow n (by omega),show((2 ^ n:Nat):Int) - 1=((2 ^ n - 1:Nat):Int) from(Int.ofNat_sub h2).symm,IntKind.wrap_u64]
  exact Int.emod_eq_of_lt (Int.natCast_nonneg _) (Int.ofNat_lt.2 (Nat.lt_of_le_of_lt (Nat.sub_le _ _) h1))
theorem uJ(lo hi:Nat)(w:World)(hlo:lo<256)(hhi:hi<256) :
  Calls Tryz.prog 295 #[.int .u8 lo,.int .u8 hi] w (aY w (iK (nX fun b=>decide (lo≤b)&&decide (b≤hi)))):=by
 by_cases hlh:hi<lo
 ·go_enter Tryz.func295,Tryz.ntmps295
  go_wp2
  have e:(nX fun b=>decide (lo≤b)&&decide (b≤hi))=0:=(Ql 0 _ fun b _=>by rw[zO];by_cases h:lo≤b <;> simp[h];omega).symm
  rw[e]
  have hz:=gG
  unfold iK
  rw[hz]
  exact cZ Tryz.results295 rfl ((Box.new' rfl _ _).alloc _) Tryz.underlying113 rfl (by kernel_rfl) rfl ⟨rfl,by go_grown⟩
 ·go_enter Tryz.func295,Tryz.ntmps295
  go_wp2
  go_loopw [13] (fun i wr=>∃ k:Nat,k≤4∧i=.int .i64 k∧Box wr w.heap.size (bT 0) 113∧Box wr (w.heap.size+1) (bT (nX fun b=>decide (lo≤b)&&decide (b≤hi)&&decide (b<64*k))) 113∧Below w.heap.size w wr) (fun i _=>4 - (intOf i).toNat)
  case atStart =>
   refine⟨0,Nat.zero_le _,rfl,?_,?_,by go_grown⟩
   ·rw[gG];exact(Box.new' rfl _ _).alloc _
   ·rw[show(nX fun b=>decide (lo≤b)&&decide (b≤hi)&&decide (b<64*0))=0 from(Ql 0 _ fun b _=>by rw[zO];simp).symm,gG];exact Box.new' (World.size_alloc _ _).symm _ _
  case round =>
   obtain⟨k,hk,rfl,hb0,hb1,hB⟩:=hrel
   by_cases hlt:k<4
   ·obtain⟨f,hf,hf2⟩:∃ f:Nat,(if (lo:Int) - 64*(k:Int)<0 then 0 else (lo:Int) - 64*(k:Int))=(f:Int)∧f=lo - 64*k:=⟨lo - 64*k,by split <;> omega,rfl⟩
    obtain⟨T,hT,hT2⟩:∃ T:Int,(if 64<(hi:Int)+1 - 64*(k:Int) then 64 else (hi:Int)+1 - 64*(k:Int))=T∧T=min 64 ((hi:Int)+1 - 64*k):=⟨_,rfl,by split <;> omega⟩
    have HF:=ah hf2
    have HT:=ah hT2
    have apH:T≤64:=by omega
    by_cases hft:(f:Int)<T
    ·obtain⟨t,rfl⟩:=Int.eq_ofNat_of_zero_le (show 0≤T by omega)
     clear hf2 hT2
     have agw:t≤64:=by omega
     have agx:f≤64:=by omega
     obtain⟨x,hx,alF,aef⟩:=Qo f t agx agw
     have HB:=ah aef
     clear aef
     go_wp2_with (first | (go_at_call_of 300 ((Value.int IntKind.i64 (t:Int)));refine(KC t _ agw).mono ?_;rintro e w1 ⟨rfl,hb⟩;have hx1:=hb1.kept hb;have hx0:=hb0.kept hb;have hB1:=hB.trans (hb.mono hB.size)) | (go_at_call_of 300 ((Value.int IntKind.i64 (f:Int)));refine(KC f _ agx).mono ?_;rintro e w2 ⟨rfl,hc⟩;have hy1:=hx1.kept hc;have hy0:=hx0.kept hc;have hB2:=hB1.trans (hc.mono hB1.size);have hyc:=hy1.agr hlt;have hyf:=hy1.free k))
     go_roundw
     case rel =>
      refine⟨k+1,hlt,by go_num,hy0.other _ _ (by simp),?_,by go_grown⟩
      have hw:x=word (nX fun b=>decide (lo≤b)&&decide (b≤hi)&&decide (b<64*(k+1))) k:=by
       refine E8 _ _ _ alF fun j hj=>?_
       have h1:=HF.out;have h2:=HT.out
       rw[HB.out j hj,pO,Bool.eq_iff_iff]
       simp only[Bool.and_eq_true,decide_eq_true_eq]
       omega
      rw[hw,←Qm (nX fun b=>decide (lo≤b)&&decide (b≤hi)&&decide (b<64*k)) _ k hlt]
      ·exact hy1.set _ _
      ·intro j hj hjk
       refine E8 _ _ _ (word_lt _ _) fun i hi'=>?_
       rw[gq,pO,pO,Bool.eq_iff_iff]
       simp only[Bool.and_eq_true,decide_eq_true_eq]
       omega
     case measure=>simp[intOf];omega
    ·clear hf2 hT2
     have e:(nX fun b=>decide (lo≤b)&&decide (b≤hi)&&decide (b<64*(k+1)))=(nX fun b=>decide (lo≤b)&&decide (b≤hi)&&decide (b<64*k)):=by
      have h1:=HF.out;have h2:=HT.out
      refine AX fun b _=>?_
      rw[Bool.eq_iff_iff];simp only[Bool.and_eq_true,decide_eq_true_eq]
      omega
     have HE:=ah e
     clear e
     go_wp2
     go_roundw
     case rel=>exact⟨k+1,hlt,by go_num,hb0,by rw[HE.out];exact hb1,hB⟩
     case measure=>simp[intOf];omega
   ·obtain rfl:k=4:=by omega
    have e:(nX fun b=>decide (lo≤b)&&decide (b≤hi)&&decide (b<64*4))=(nX fun b=>decide (lo≤b)&&decide (b≤hi)):=AX fun b hb=>by simp[show b<64*4 by omega]
    rw[e] at hb1
    clear e
    obtain⟨⟨p0,p1,p2,p3⟩,⟨q0,q1,q2,q3⟩⟩:=hb0.jv
    obtain⟨⟨r0,r1,r2,r3⟩,_⟩:=hb1.jv
    go_wp2
    exact cZ Tryz.results295 rfl (hb0.eG rfl _ _ _ _) Tryz.underlying113 rfl (by kernel_rfl) rfl ⟨rfl,by go_grown⟩
end
section
open Go.RowKit
def Nf.goes(y:Nf)(s:Nat):List Nat:=(y.links.filter fun l=>l.1==s).map (·.2)
def Nf.out(y:Nf)(s:Nat):List (Nat×au×Nat):=y.edges.filter fun e=>e.1==s
def fM(y:Nf)(l:List Nat):List Nat:=gQ y.states (qO y.states y.goes (y.states+1) (l.foldl (jA y.states) (0,[])))
def gZ(y:Nf)(l:List Nat)(b:Nat):List Nat:=fM y (l.flatMap fun s=>((y.out s).filter fun e=>mem e.2.1 b).map (·.2.2))
theorem Jj(n:Nat)(l:List Nat)(st:Nat×List Nat)(h:st.1<2 ^ n):(l.foldl (jA n) st).1<2 ^ n:=by
 induction l generalizing st with
 | nil=>exact h
 | cons a l ih=>rw[List.foldl_cons];exact ih _ (afx n st a h)
theorem Fp(n:Nat)(goes:Nat→List Nat):∀ (f:Nat) (st:Nat×List Nat),st.1<2 ^ n→qO n goes f st<2 ^ n
 | 0,st,h=>h
 | f+1,st,h=>by
  rw[qO]
  split
  ·exact h
  ·exact Fp n goes f _ (Jj n _ _ h)
theorem abR(n:Nat)(st:Nat×List Nat)(s:Nat)(h:∀ x∈st.2,x<n):∀ x∈(jA n st s).2,x<n:=by
 unfold jA
 split
 ·rename_i h1
  intro x hx
  rcases List.mem_append.1 hx with hx | hx
  ·exact h x hx
  ·simp at hx;omega
 ·exact h
theorem Oq(n:Nat)(l:List Nat)(st:Nat×List Nat)(h:∀ x∈st.2,x<n):∀ x∈(l.foldl (jA n) st).2,x<n:=by
 induction l generalizing st with
 | nil=>exact h
 | cons a l ih=>rw[List.foldl_cons];exact ih _ (abR n st a h)
theorem KD{α β:Type}(f:β→α→β)(l:List α)(z:β)(k:Nat)(h:k<l.length):(l.take (k+1)).foldl f z=f ((l.take k).foldl f z) l[k]:=by
 rw[List.take_succ_eq_append_getElem h,List.foldl_append];rfl
theorem Ot{α β:Type}(f:β→α→β)(l:List α)(z:β):(l.take l.length).foldl f z=l.foldl f z:=by rw[List.take_length]
end
section
open Go.RowKit
theorem QI:(Tryz.prog.info? 22).map (fun i=>(i.zero,i.size))=some (some (.agg (aS fun _=>0)),256):=by kernel_rfl
theorem jX(w:World):(zeroValue 22).run Tryz.prog w=.ok (.agg (aS fun _=>0)) w:=(zero_of_info QI).1 w
theorem aT(f:Nat→Nat):(Tryz.prog.info? 22).map (·.size)=some (aS f).size:=by rw[aV];exact(zero_of_info QI).2
theorem Jk:rW Tryz.prog 4 (fun n:Bool=>Value.bool n):=WC Tryz.underlying4
theorem Uu(k:Nat→Bool)(w:World)
  (hkey:∀ b:Nat,b<256→∀ w',Below w.heap.size w w'→Calls Tryz.prog 197 #[.int .i64 b] w' (aY w' (.bool (k b)))) :
  Calls Tryz.prog 196 #[.func (.func 197) #[] #[]] w (aY w (.tuple #[.agg (aS (bf (aW k))),.int .i64 (iL (aW k):Nat)])):=by
 have E:=oL k
 have hz:=jX
 have hmm:=@run_makeMap Tryz.prog
 have HK:=ah hkey
 clear hkey
 generalize hR:aW k=R at *
 have HR:=ah hR
 clear hR
 go_enter Tryz.func196,Tryz.ntmps196
 go_wp2
 go_loopw [11] (fun i wr=>∃ n:Nat,n≤256∧i=.int .i64 n∧Box wr w.heap.size (aS fun _=>0) 22∧Box wr (w.heap.size+1) (aS fun b=>if b<n then bf R b else 0) 22∧aJ wr (w.heap.size+1+1) (fun n:Bool=>Value.bool n) (qC k (aI R n))∧Below w.heap.size w wr) (fun i _=>256 - (intOf i).toNat)
 case atStart =>
  refine⟨0,Nat.zero_le _,rfl,((Box.new' rfl _ _).alloc _).alloc _,?_,?_,by go_grown⟩
  ·rw[dP (g:=fun _=>0) (fun i _=>by simp)];exact(Box.new' (World.size_alloc _ _).symm _ _).alloc _
  ·rw[DX];refine aJ.new' ?_ _;simp
 case round =>
  obtain⟨n,hn,rfl,hb0,hb1,hm,hB⟩:=hrel
  by_cases hlt:n<256
  ·have hlook:=DW k n (aI R n)
   rw[HR.out] at hlook
   have hlen:=jT R n
   cases hany:(aI R n).any (R n) with
   | true =>
    obtain⟨e1,e2⟩:=Jd E.refl hlt hany
    rw[e2] at hlook
    have HL:=ah hlook
    have HE:=ah e1
    clear hlook e1 e2 hany
    go_wp2_with (go_at_call 197;go_must (refine(HK.out n hlt _ hB).mono ?_;rintro e w1 ⟨rfl,hb⟩;have hB1:=(hB.trans (hb.mono hB.size));have hx0:=(hb0.kept hb);have hx1:=(hb1.kept hb);have hm1:=(hm.kept hb);have hrun:=hm1.qM Jk Tryz.underlying313 (Tryz.zeroValue5 _) (k n);rw[HL.out] at hrun;have hc:=(hx1.cell n).trans (dS _ n hlt);have hf:=hx1.free n))
    go_roundw
    case rel =>
     refine⟨n+1,hlt,by go_num,hx0.other _ _ (by simp),?_,?_,by go_grown⟩
     ·have:=hx1.set n (.int .u8 (bf R n:Nat))
      rw[uD,dP (g:=fun b=>if b<n+1 then bf R b else 0) (pR rfl)] at this
      exact this
     ·rw[HE.out];exact hm1.other _ _ (by simp)
    case measure=>simp[intOf];omega
   | false =>
    obtain⟨e1,e2⟩:=Jc E.refl hlt hany
    rw[yw hany] at hlook
    have HL:=ah hlook
    have HE:=ah e1
    have HN:=ah e2
    clear hlook e1 e2 hany
    go_wp2_with (go_at_call 197;go_must (refine(HK.out n hlt _ hB).mono ?_;rintro e w1 ⟨rfl,hb⟩;have hB1:=(hB.trans (hb.mono hB.size));have hx0:=(hb0.kept hb);have hx1:=(hb1.kept hb);have hm1:=(hm.kept hb);have hrun:=hm1.qM Jk Tryz.underlying313 (Tryz.zeroValue5 _) (k n);rw[HL.out] at hrun;have hlen1:=hm1.zJ Tryz.underlying313 3 _ (oh k (aI R n));obtain⟨w2,hput,hm2,hoth,hsz2,hbel⟩:=hm1.rX Jk Tryz.underlying313 (k n) (.int .u8 ((aI R n).length:Nat));have hy0:=hx0.turn hoth (by omega);have hy1:=hx1.turn hoth (by omega);have hB2:=hB1.trans (hbel w.heap.size (by omega));have hlk:look (k n) (qC k (aI R n))=none:=HL.out;rw[kT _ _ _ hlk,←DV] at hm2;have hc:=(hy1.cell n).trans (dS _ n hlt);have hf:=hy1.free n;have hconv:=nH (aI R n).length (by omega); clear hoth hbel hsz2 hlk))
    go_roundw
    case rel =>
     refine⟨n+1,hlt,by go_num,hy0.other _ _ (by simp),?_,?_,by go_grown⟩
     ·have:=hy1.set n (.int .u8 ((aI R n).length:Nat))
      rw[uD,dP (g:=fun b=>if b<n+1 then bf R b else 0) (pR HN.out)] at this
      exact this
     ·rw[HE.out];exact hm2.other _ _ (by simp)
    case measure=>simp[intOf];omega
  ·obtain rfl:n=256:=by omega
   have hlen1:=hm.zJ Tryz.underlying313 3 _ (oh k (aI R 256))
   rw[dP (g:=bf R) (fun i hi=>if_pos hi)] at hb1
   go_wp2_with (first | (refine wpList_load_row rfl 22 (.tmp 4) rfl (w.heap.size+1) rfl _ _ _ _ hb1 Tryz.underlying22 rfl (aT _) ?_) | (refine wpList_store_row rfl 22 (.tmp 2) (.tmp 35) rfl w.heap.size _ rfl rfl _ _ hb0 (aT _) (by rw[aV,aV]) (gK _) ?_))
   refine fP Tryz.results196 rfl rfl (hb0.setRow _) Tryz.underlying22 rfl (aT _) rfl ⟨?_,below_setRow hB (Nat.le_refl _) _⟩
   rw[nI];rfl
theorem QJ:rW Tryz.prog 5 (fun n:Int=>Value.int .u8 n):=Oe Tryz.underlying5
theorem YR(k:Nat→Int)(p:Value)(w:World)
  (hkey:∀ b:Nat,b<256→∀ w',Below w.heap.size w w'→Calls Tryz.prog 159 #[.int .i64 b,p] w' (aY w' (.int .u8 (k b)))) :
  Calls Tryz.prog 158 #[.func (.func 159) #[] #[p]] w (aY w (.tuple #[.agg (aS (bf (aW k))),.int .i64 (iL (aW k):Nat)])):=by
 have E:=oL k
 have hz:=jX
 have hmm:=@run_makeMap Tryz.prog
 have HK:=ah hkey
 clear hkey
 generalize hR:aW k=R at *
 have HR:=ah hR
 clear hR
 go_enter Tryz.func158,Tryz.ntmps158
 go_wp2
 go_loopw [11] (fun i wr=>∃ n:Nat,n≤256∧i=.int .i64 n∧Box wr w.heap.size (aS fun _=>0) 22∧Box wr (w.heap.size+1) (aS fun b=>if b<n then bf R b else 0) 22∧aJ wr (w.heap.size+1+1) (fun n:Int=>Value.int .u8 n) (qC k (aI R n))∧Below w.heap.size w wr) (fun i _=>256 - (intOf i).toNat)
 case atStart =>
  refine⟨0,Nat.zero_le _,rfl,((Box.new' rfl _ _).alloc _).alloc _,?_,?_,by go_grown⟩
  ·rw[dP (g:=fun _=>0) (fun i _=>by simp)];exact(Box.new' (World.size_alloc _ _).symm _ _).alloc _
  ·rw[DX];refine aJ.new' ?_ _;simp
 case round =>
  obtain⟨n,hn,rfl,hb0,hb1,hm,hB⟩:=hrel
  by_cases hlt:n<256
  ·have hlook:=DW k n (aI R n)
   rw[HR.out] at hlook
   have hlen:=jT R n
   cases hany:(aI R n).any (R n) with
   | true =>
    obtain⟨e1,e2⟩:=Jd E.refl hlt hany
    rw[e2] at hlook
    have HL:=ah hlook
    have HE:=ah e1
    clear hlook e1 e2 hany
    go_wp2_with (go_at_call 159;go_must (refine(HK.out n hlt _ hB).mono ?_;rintro e w1 ⟨rfl,hb⟩;have hB1:=(hB.trans (hb.mono hB.size));have hx0:=(hb0.kept hb);have hx1:=(hb1.kept hb);have hm1:=(hm.kept hb);have hrun:=hm1.qM QJ Tryz.underlying291 (Tryz.zeroValue5 _) (k n);rw[HL.out] at hrun;have hc:=(hx1.cell n).trans (dS _ n hlt);have hf:=hx1.free n))
    go_roundw
    case rel =>
     refine⟨n+1,hlt,by go_num,hx0.other _ _ (by simp),?_,?_,by go_grown⟩
     ·have:=hx1.set n (.int .u8 (bf R n:Nat))
      rw[uD,dP (g:=fun b=>if b<n+1 then bf R b else 0) (pR rfl)] at this
      exact this
     ·rw[HE.out];exact hm1.other _ _ (by simp)
    case measure=>simp[intOf];omega
   | false =>
    obtain⟨e1,e2⟩:=Jc E.refl hlt hany
    rw[yw hany] at hlook
    have HL:=ah hlook
    have HE:=ah e1
    have HN:=ah e2
    clear hlook e1 e2 hany
    go_wp2_with (go_at_call 159;go_must (refine(HK.out n hlt _ hB).mono ?_;rintro e w1 ⟨rfl,hb⟩;have hB1:=(hB.trans (hb.mono hB.size));have hx0:=(hb0.kept hb);have hx1:=(hb1.kept hb);have hm1:=(hm.kept hb);have hrun:=hm1.qM QJ Tryz.underlying291 (Tryz.zeroValue5 _) (k n);rw[HL.out] at hrun;have hlen1:=hm1.zJ Tryz.underlying291 3 _ (oh k (aI R n));obtain⟨w2,hput,hm2,hoth,hsz2,hbel⟩:=hm1.rX QJ Tryz.underlying291 (k n) (.int .u8 ((aI R n).length:Nat));have hy0:=hx0.turn hoth (by omega);have hy1:=hx1.turn hoth (by omega);have hB2:=hB1.trans (hbel w.heap.size (by omega));have hlk:look (k n) (qC k (aI R n))=none:=HL.out;rw[kT _ _ _ hlk,←DV] at hm2;have hc:=(hy1.cell n).trans (dS _ n hlt);have hf:=hy1.free n;have hconv:=nH (aI R n).length (by omega); clear hoth hbel hsz2 hlk))
    go_roundw
    case rel =>
     refine⟨n+1,hlt,by go_num,hy0.other _ _ (by simp),?_,?_,by go_grown⟩
     ·have:=hy1.set n (.int .u8 ((aI R n).length:Nat))
      rw[uD,dP (g:=fun b=>if b<n+1 then bf R b else 0) (pR HN.out)] at this
      exact this
     ·rw[HE.out];exact hm2.other _ _ (by simp)
    case measure=>simp[intOf];omega
  ·obtain rfl:n=256:=by omega
   have hlen1:=hm.zJ Tryz.underlying291 3 _ (oh k (aI R 256))
   rw[dP (g:=bf R) (fun i hi=>if_pos hi)] at hb1
   go_wp2_with (first | (refine wpList_load_row rfl 22 (.tmp 4) rfl (w.heap.size+1) rfl _ _ _ _ hb1 Tryz.underlying22 rfl (aT _) ?_) | (refine wpList_store_row rfl 22 (.tmp 2) (.tmp 35) rfl w.heap.size _ rfl rfl _ _ hb0 (aT _) (by rw[aV,aV]) (gK _) ?_))
   refine fP Tryz.results158 rfl rfl (hb0.setRow _) Tryz.underlying22 rfl (aT _) rfl ⟨?_,below_setRow hB (Nat.le_refl _) _⟩
   rw[nI];rfl
end
section
open Go.RowKit
theorem QK:rW Tryz.prog 79 (BX .i64):=by
 obtain⟨i,hi,_,hs,_⟩:=info_parts (P:=Tryz.prog) (e:=3) (z:=.int .i64 0) (size:=1) (bytes:=8) (by kernel_rfl)
 exact WE Tryz.underlying79 Tryz.underlying3 hi (by kernel_rfl) hs
theorem YS(k:Nat→Int×Int)(p q:Value)(w:World)
  (hkey:∀ b:Nat,b<256→∀ w',Below w.heap.size w w'→Calls Tryz.prog 199 #[.int .i64 b,p,q] w' (aY w' (BX .i64 (k b)))) :
  Calls Tryz.prog 198 #[.func (.func 199) #[] #[p,q]] w (aY w (.tuple #[.agg (aS (bf (aW k))),.int .i64 (iL (aW k):Nat)])):=by
 have E:=oL k
 have hz:=jX
 have hmm:=@run_makeMap Tryz.prog
 have HK:=ah hkey
 clear hkey
 generalize hR:aW k=R at *
 have HR:=ah hR
 clear hR
 go_enter Tryz.func198,Tryz.ntmps198
 go_wp2
 go_loopw [11] (fun i wr=>∃ n:Nat,n≤256∧i=.int .i64 n∧Box wr w.heap.size (aS fun _=>0) 22∧Box wr (w.heap.size+1) (aS fun b=>if b<n then bf R b else 0) 22∧aJ wr (w.heap.size+1+1) (BX .i64) (qC k (aI R n))∧Below w.heap.size w wr) (fun i _=>256 - (intOf i).toNat)
 case atStart =>
  refine⟨0,Nat.zero_le _,rfl,((Box.new' rfl _ _).alloc _).alloc _,?_,?_,by go_grown⟩
  ·rw[dP (g:=fun _=>0) (fun i _=>by simp)];exact(Box.new' (World.size_alloc _ _).symm _ _).alloc _
  ·rw[DX];refine aJ.new' ?_ _;simp
 case round =>
  obtain⟨n,hn,rfl,hb0,hb1,hm,hB⟩:=hrel
  by_cases hlt:n<256
  ·have hlook:=DW k n (aI R n)
   rw[HR.out] at hlook
   have hlen:=jT R n
   cases hany:(aI R n).any (R n) with
   | true =>
    obtain⟨e1,e2⟩:=Jd E.refl hlt hany
    rw[e2] at hlook
    have HL:=ah hlook
    have HE:=ah e1
    clear hlook e1 e2 hany
    go_wp2_with (go_at_call 199;go_must (refine(HK.out n hlt _ hB).mono ?_;rintro e w1 ⟨rfl,hb⟩;have hB1:=Below.alloc (hB.trans (hb.mono hB.size)) (by have:=hb0.lt;have:=hb.size;omega) (.cells #[.int .i64 (k n).1,.int .i64 (k n).2] 79);have hx0:=(hb0.kept hb).alloc (.cells #[.int .i64 (k n).1,.int .i64 (k n).2] 79);have hx1:=(hb1.kept hb).alloc (.cells #[.int .i64 (k n).1,.int .i64 (k n).2] 79);have hm1:=(hm.kept hb).alloc (.cells #[.int .i64 (k n).1,.int .i64 (k n).2] 79);have hrun:=hm1.qM QK Tryz.underlying314 (Tryz.zeroValue5 _) (k n);rw[HL.out] at hrun;have hc:=(hx1.cell n).trans (dS _ n hlt);have hf:=hx1.free n))
    go_roundw
    case rel =>
     refine⟨n+1,hlt,by go_num,hx0.other _ _ (by simp),?_,?_,by go_grown⟩
     ·have:=hx1.set n (.int .u8 (bf R n:Nat))
      rw[uD,dP (g:=fun b=>if b<n+1 then bf R b else 0) (pR rfl)] at this
      exact this
     ·rw[HE.out];exact hm1.other _ _ (by simp)
    case measure=>simp[intOf];omega
   | false =>
    obtain⟨e1,e2⟩:=Jc E.refl hlt hany
    rw[yw hany] at hlook
    have HL:=ah hlook
    have HE:=ah e1
    have HN:=ah e2
    clear hlook e1 e2 hany
    go_wp2_with (go_at_call 199;go_must (refine(HK.out n hlt _ hB).mono ?_;rintro e w1 ⟨rfl,hb⟩;have hB1:=Below.alloc (hB.trans (hb.mono hB.size)) (by have:=hb0.lt;have:=hb.size;omega) (.cells #[.int .i64 (k n).1,.int .i64 (k n).2] 79);have hx0:=(hb0.kept hb).alloc (.cells #[.int .i64 (k n).1,.int .i64 (k n).2] 79);have hx1:=(hb1.kept hb).alloc (.cells #[.int .i64 (k n).1,.int .i64 (k n).2] 79);have hm1:=(hm.kept hb).alloc (.cells #[.int .i64 (k n).1,.int .i64 (k n).2] 79);have hrun:=hm1.qM QK Tryz.underlying314 (Tryz.zeroValue5 _) (k n);rw[HL.out] at hrun;have hlen1:=hm1.zJ Tryz.underlying314 3 _ (oh k (aI R n));obtain⟨w2,hput,hm2,hoth,hsz2,hbel⟩:=hm1.rX QK Tryz.underlying314 (k n) (.int .u8 ((aI R n).length:Nat));have hy0:=hx0.turn hoth (by omega);have hy1:=hx1.turn hoth (by omega);have hB2:=hB1.trans (hbel w.heap.size (by omega));have hlk:look (k n) (qC k (aI R n))=none:=HL.out;rw[kT _ _ _ hlk,←DV] at hm2;have hc:=(hy1.cell n).trans (dS _ n hlt);have hf:=hy1.free n;have hconv:=nH (aI R n).length (by omega);have apI:=((Box.new w1 #[.int .i64 (k n).1,.int .i64 (k n).2] 79).turn hoth (by have:=hm.lt;have:=hb.size;omega)).cell 0;have apJ:=((Box.new w1 #[.int .i64 (k n).1,.int .i64 (k n).2] 79).turn hoth (by have:=hm.lt;have:=hb.size;omega)).cell 1;clear hoth hbel hsz2 hlk))
    go_roundw
    case rel =>
     refine⟨n+1,hlt,by go_num,hy0.other _ _ (by simp),?_,?_,by go_grown⟩
     ·have:=hy1.set n (.int .u8 ((aI R n).length:Nat))
      rw[uD,dP (g:=fun b=>if b<n+1 then bf R b else 0) (pR HN.out)] at this
      exact this
     ·rw[HE.out];exact hm2.other _ _ (by simp)
    case measure=>simp[intOf];omega
  ·obtain rfl:n=256:=by omega
   have hlen1:=hm.zJ Tryz.underlying314 3 _ (oh k (aI R 256))
   rw[dP (g:=bf R) (fun i hi=>if_pos hi)] at hb1
   go_wp2_with (first | (refine wpList_load_row rfl 22 (.tmp 4) rfl (w.heap.size+1) rfl _ _ _ _ hb1 Tryz.underlying22 rfl (aT _) ?_) | (refine wpList_store_row rfl 22 (.tmp 2) (.tmp 35) rfl w.heap.size _ rfl rfl _ _ hb0 (aT _) (by rw[aV,aV]) (gK _) ?_))
   refine fP Tryz.results198 rfl rfl (hb0.setRow _) Tryz.underlying22 rfl (aT _) rfl ⟨?_,below_setRow hB (Nat.le_refl _) _⟩
   rw[nI];rfl
end
section
open Go.RowKit
def RL(l:List au)(b c:Nat):Bool:=l.all fun s=>mem s b==mem s c
theorem afA(l:List au):yO (RL l):=by
 refine⟨fun b=>by simp[RL],fun{b c} h=>?_,fun{b c d} h k=>?_⟩ <;> simp only[RL,List.all_eq_true,beq_iff_eq] at *
 ·exact fun s hs=>(h s hs).symm
 ·exact fun s hs=>(h s hs).trans (k s hs)
theorem Vr(l:List au)(s:au)(b c:Nat):RL (l++[s]) b c=(RL l b c&&(mem s b==mem s c)):=by simp[RL]
def yB(R:Nat→Nat→Bool)(s:au)(b:Nat):Int×Int:=((bf R b:Nat),if mem s b then 1 else 0)
theorem Iy{R:Nat→Nat→Bool}(E:yO R)(s:au){b c:Nat}(hb:b<256)(hc:c<256):aW (yB R s) b c=(R b c&&(mem s b==mem s c)):=by
 rw[Bool.eq_iff_iff]
 simp only[aW,yB,decide_eq_true_eq,Prod.mk.injEq,Bool.and_eq_true,beq_iff_eq]
 rw[show(((bf R b:Nat):Int)=((bf R c:Nat):Int))↔bf R b=bf R c by omega,Ht E hb hc]
 cases mem s b <;> cases mem s c <;> simp
theorem YT(b:Nat)(w:World):Calls Tryz.prog 197 #[.int .i64 b] w (aY w (.bool true)):=by
 go_enter Tryz.func197,Tryz.ntmps197
 go_wp2
 go_ret
 exact⟨rfl,by go_grown⟩
theorem YU(R:Nat→Nat→Bool)(E:yO R)(s:au)(p q b:Nat)(w:World)(hb:b<256)(hp:Box w p (bT s) 113)(hq:Box w q (aS (bf R)) 22) :
  Calls Tryz.prog 199 #[.int .i64 b,.pointer (some ⟨p,0,none⟩),.pointer (some ⟨q,0,none⟩)] w (aY w (BX .i64 (yB R s b))):=by
 obtain⟨⟨r0,r1,r2,r3⟩,_⟩:=hp.jv
 have hlt:=WG E.refl hb
 have l1:=hp.lt
 have l2:=hq.lt
 have hwr:=nH b hb
 cases hm:mem s b with
 | true =>
  have HM:=ah hm
  clear hm
  go_enter Tryz.func199,Tryz.ntmps199
  go_wp2_with (go_at_call 200;go_must (refine(Ji _ _ _ hb).mono ?_;rintro e w1 ⟨rfl,hB⟩;rw[HM.out];have hc1:=(((hq.alloc _).kept hB).cell b).trans (dS _ b hb);have hx0:=(Box.new _ _ _).kept hB;have hx1:=hx0.cell 0;have hx2:=hx0.cell 1;have hx3:=hx0.free 0;have hx4:=hx0.free 1))
  refine cZ Tryz.results199 rfl ((hx0.set 0 _).set 1 _) Tryz.underlying79 rfl (by kernel_rfl) rfl ⟨?_,by have hB1:=((Below.refl w.heap.size w).alloc (Nat.le_refl _) _).trans (hB.mono (by simp));go_grown⟩
  unfold yB;rw[HM.out];rfl
 | false =>
  have HM:=ah hm
  clear hm
  go_enter Tryz.func199,Tryz.ntmps199
  go_wp2_with (go_at_call 200;go_must (refine(Ji _ _ _ hb).mono ?_;rintro e w1 ⟨rfl,hB⟩;rw[HM.out];have hc1:=(((hq.alloc _).kept hB).cell b).trans (dS _ b hb);have hx0:=(Box.new _ _ _).kept hB;have hx1:=hx0.cell 0;have hx2:=hx0.cell 1;have hx3:=hx0.free 0;have hx4:=hx0.free 1))
  refine cZ Tryz.results199 rfl ((hx0.set 0 _).set 1 _) Tryz.underlying79 rfl (by kernel_rfl) rfl ⟨?_,by have hB1:=((Below.refl w.heap.size w).alloc (Nat.le_refl _) _).trans (hB.mono (by simp));go_grown⟩
  unfold yB;rw[HM.out];rfl
theorem abS(a:Option Addr)(cap:Nat)(l:List au)(w:World)(h:ak w (.slice a l.length cap) 4 encS l) :
  Calls Tryz.prog 155 #[.slice a l.length cap] w (aY w (.tuple #[.agg (aS (bf (RL l))),.int .i64 (iL (RL l):Nat)])):=by
 obtain⟨b,o,hlen,hcap,hcap',ha,hbl,hcell⟩:=h.sets
 clear hlen h hbl
 have hz:=jX
 have HC:=ah hcell
 clear hcell
 go_enter Tryz.func155,Tryz.ntmps155
 go_wp2_with (first | (refine eX rfl 22 (.tmp 4) (.tmp 11) rfl _ _ rfl rfl rfl (aT _) (by rw[aV,aV]) (gK _) ?_) | (go_at_call 196;go_must (refine(Uu (fun _=>true) _ (fun b hb w' _=>YT b w')).mono ?_;rintro e w1 ⟨rfl,hB⟩)))
 have hx0:=(Box.new' (w:=w) rfl (aS fun _=>0) 22).kept hB
 have hB1:=((Below.refl w.heap.size w).alloc (Nat.le_refl _) _).trans (hB.mono (by simp))
 have hsz:w.heap.size<w1.heap.size:=hx0.lt
 have e0:aS (bf (aW fun _=>true))=aS (bf (RL [])):=dP fun i hi=>Kr (fun _ _ _ _=>by simp[aW,RL]) hi
 have e1:iL (aW fun _=>true)=iL (RL []):=Kt (fun _ _ _ _=>by simp[aW,RL])
 rw[e0,e1]
 clear e0 e1
 generalize hq:w1.heap.size=q
 go_loopw [5,15] (fun n i wr=>∃ j:Nat,j≤l.length∧i=.int .i64 j∧n=.int .i64 (iL (RL (l.take j)):Nat)∧Box wr w.heap.size (aS fun _=>0) 22∧Box wr q (aS (bf (RL (l.take j)))) 22∧Below w.heap.size w wr) (fun _ i _=>l.length - (intOf i).toNat)
 case atStart =>
  subst hq
  exact⟨0,Nat.zero_le _,rfl,rfl,hx0.alloc _,Box.new _ _ _,by go_grown⟩
 case round =>
  obtain⟨j,hj,rfl,rfl,hb0,hb1,hB2⟩:=hrel
  by_cases hlt:j<l.length
  ·obtain rfl:=ha j hlt
   obtain⟨c0,c1,c2,c3⟩:=HC.out j hlt wr hB2
   have e2:l.take (j+1)=l.take j++[l[j]]:=List.take_succ_eq_append_getElem hlt
   have HE:=ah e2
   clear e2 ha
   generalize l[j]=s at *
   have hR:=afA (l.take j)
   have WT:=hb0.lt
   have hb1':=hb1.lt
   go_wp2_with (first | (refine wpList_load_row rfl 22 (.tmp 4) rfl q rfl _ _ _ _ (hb1.alloc _) Tryz.underlying22 rfl (aT _) ?_) | (refine eX rfl 22 (.tmp 8) (.tmp 19) rfl _ _ rfl rfl (by simp) (aT _) (by rw[aV,aV]) (gK _) ?_) | (refine wpList_store_row rfl 22 (.tmp 4) (.tmp 23) rfl q _ rfl rfl _ _ hx1 (aT _) (by rw[aV,aV]) (gK _) ?_) | (go_at_call 198;go_must (refine(YS (yB (RL (l.take j)) s) _ _ _ (fun b hb w' hB'=>YU (RL (l.take j)) hR s _ _ b w' hb (((Box.new' rfl _ _).alloc _).kept hB') ((Box.new' (World.size_alloc _ _).symm _ _).kept hB'))).mono ?_;rintro e w2 ⟨rfl,hB3⟩;have hx0:=((hb0.alloc _).alloc _).kept hB3;have hx1:=((hb1.alloc _).alloc _).kept hB3;have hB4:=((hB2.alloc (Nat.le_of_lt WT) _).alloc (by simp;omega) _).trans (hB3.mono (by simp;omega)))))
   have eA:aS (bf (aW (yB (RL (l.take j)) s)))=aS (bf (RL (l.take (j+1)))):=dP fun i hi=>Kr (fun b c hb hc=>by rw[Iy hR s hb hc,HE.out,Vr]) hi
   have eB:iL (aW (yB (RL (l.take j)) s))=iL (RL (l.take (j+1))):=Kt (fun b c hb hc=>by rw[Iy hR s hb hc,HE.out,Vr])
   rw[eA,eB]
   go_roundw
   case rel=>exact⟨j+1,hlt,by go_num,rfl,hx0.setRow_other _ (by omega),hx1.setRow _,below_setRow hB4 (by omega) _⟩
   case measure=>simp[intOf];omega
  ·obtain rfl:j=l.length:=by omega
   rw[List.take_length] at hb1 ⊢
   go_wp2_with (first | (refine wpList_load_row rfl 22 (.tmp 4) rfl q rfl _ _ _ _ hb1 Tryz.underlying22 rfl (aT _) ?_) | (refine wpList_store_row rfl 22 (.tmp 2) (.tmp 26) rfl w.heap.size _ rfl rfl _ _ hb0 (aT _) (by rw[aV,aV]) (gK _) ?_))
   exact fP Tryz.results155 rfl rfl (hb0.setRow _) Tryz.underlying22 rfl (aT _) rfl ⟨rfl,below_setRow hB2 (Nat.le_refl _) _⟩
end
section
open Go.RowKit
def bH(f:Nat→Nat)(b:Nat):Int:=(f b:Nat)
theorem Uw(f:Nat→Nat)(p b:Nat)(w:World)(hb:b<256)(hp:Box w p (aS f) 22) :
  Calls Tryz.prog 159 #[.int .i64 b,.pointer (some ⟨p,0,none⟩)] w (aY w (.int .u8 (bH f b))):=by
 have hc:=(hp.cell b).trans (dS _ b hb)
 go_enter Tryz.func159,Tryz.ntmps159
 go_wp2
 go_ret
 exact⟨rfl,by go_grown⟩
theorem D8(f:Nat→Nat)(w:World) :
  Calls Tryz.prog 112 #[.agg (aS f)] w (aY w (.tuple #[.agg (aS (bf (aW (bH f)))),.int .i64 (iL (aW (bH f)):Nat)])):=by
 have hz:=jX
 go_enter Tryz.func112,Tryz.ntmps112
 go_wp2_with (first | (refine wpList_store_row rfl 22 (.tmp 2) (.tmp 6) rfl _ _ rfl rfl _ _ hx1 (aT _) (kU _ _) (gK _) ?_) | (go_at_call 158;go_must (refine(YR (bH f) _ _ (fun b hb w' hB'=>Uw f w.heap.size b w' hb (((Box.new' rfl _ _).alloc _).kept hB'))).mono ?_;rintro e w1 ⟨rfl,hB⟩;have hx1:=(Box.new' (w:=w.alloc (.cells (aS f) 22)) (World.size_alloc _ _).symm (aS fun _=>0) 22).kept hB)))
 have hB1:=(((Below.refl w.heap.size w).alloc (Nat.le_refl _) (.cells (aS f) 22)).alloc (by simp) (.cells (aS fun _=>0) 22)).trans (hB.mono (by simp;omega))
 exact fP Tryz.results112 rfl rfl (hx1.setRow _) Tryz.underlying22 rfl (aT _) rfl ⟨rfl,below_setRow hB1 (by simp) _⟩
theorem Ux(f:Nat→Nat)(n:Int)(w:World) :
  Calls Tryz.prog 67 #[.agg (aS f),.int .i64 n] w (aY w (.bool (kE (bf (aW (bH f))) f&&((iL (aW (bH f)):Nat)==n)))):=by
 have hz:=jX
 have hq:=Oi (P:=Tryz.prog) (t:=22) (e:=5) Tryz.underlying22 Tryz.underlying5 (by kernel_rfl) (bf (aW (bH f))) f
 have hsz:∀ w1:World,Below (w.alloc (.cells (aS f) 22)).heap.size (w.alloc (.cells (aS f) 22)) w1→Below w.heap.size w (w1.alloc (.cells (aS (bf (aW (bH f)))) 22)):=fun w1 hB=>(((Below.refl w.heap.size w).alloc (Nat.le_refl _) _).trans (hB.mono (by go_size))).alloc (by have:=hB.size;simp at this;omega) _
 have HS:=ah hsz
 clear hsz
 cases hs:kE (bf (aW (bH f))) f with
 | true =>
  rw[hs] at hq
  clear hs
  go_enter Tryz.func67,Tryz.ntmps67
  go_wp2_with (first | (refine wpList_load_row rfl 22 (.tmp 2) rfl _ rfl _ _ _ _ (Box.new _ _ _) Tryz.underlying22 rfl (aT _) ?_) | (refine eX rfl 22 (.tmp 5) (.tmp 10) rfl _ _ rfl rfl rfl (aT _) (kU _ _) (gK _) ?_) | (go_at_call 112;go_must (refine(D8 f _).mono ?_;rintro e w1 ⟨rfl,hB⟩;have hx0:=(Box.new w (aS f) 22).kept hB)) | (refine wpList_load_row rfl 22 (.tmp 5) rfl _ rfl _ _ _ _ (Box.new _ _ _) Tryz.underlying22 rfl (aT _) ?_) | (refine wpList_load_row rfl 22 (.tmp 2) rfl _ rfl _ _ _ _ (hx0.alloc _) Tryz.underlying22 rfl (aT _) ?_))
  go_ret
  exact⟨rfl,HS.out _ hB⟩
 | false =>
  rw[hs] at hq
  clear hs
  go_enter Tryz.func67,Tryz.ntmps67
  go_wp2_with (first | (refine wpList_load_row rfl 22 (.tmp 2) rfl _ rfl _ _ _ _ (Box.new _ _ _) Tryz.underlying22 rfl (aT _) ?_) | (refine eX rfl 22 (.tmp 5) (.tmp 10) rfl _ _ rfl rfl rfl (aT _) (kU _ _) (gK _) ?_) | (go_at_call 112;go_must (refine(D8 f _).mono ?_;rintro e w1 ⟨rfl,hB⟩;have hx0:=(Box.new w (aS f) 22).kept hB)) | (refine wpList_load_row rfl 22 (.tmp 5) rfl _ rfl _ _ _ _ (Box.new _ _ _) Tryz.underlying22 rfl (aT _) ?_) | (refine wpList_load_row rfl 22 (.tmp 2) rfl _ rfl _ _ _ _ (hx0.alloc _) Tryz.underlying22 rfl (aT _) ?_))
  go_ret
  exact⟨rfl,HS.out _ hB⟩
end
section
open Go.RowKit
theorem Jl:dQ Tryz.prog 190 113 (.agg #[.int .u64 0,.int .u64 0,.int .u64 0,.int .u64 0]) 4 32 :=
 ⟨Tryz.underlying190,info_parts (by kernel_rfl),rfl,by decide⟩
end
section
open Go.RowKit
def lT(R:Nat→Nat→Bool)(n:Nat):List au:=(aI R 256).map (cls R n)
theorem mP(R:Nat→Nat→Bool)(n:Nat):(lT R n).length=iL R:=by rw[lT,List.length_map,nI]
theorem Uy(R:Nat→Nat→Bool):lT R 0=List.replicate (iL R) 0:=by
 rw[lT,nI,←List.map_const']
 refine List.map_congr_left fun c _=>rU fun b hb=>?_
 rw[rZ,zO];simp
theorem Uz{R:Nat→Nat→Bool}(E:yO R){n:Nat}(hn:n<256)(hk:bf R n<(lT R n).length) :
  lT R (n+1)=(lT R n).set (bf R n) ((lT R n)[bf R n] ||| nM [n]):=by
 have hlen:=mP R n
 refine List.ext_getElem (by rw[List.length_set,mP,mP]) fun i h1 h2=>?_
 rw[List.getElem_set]
 have hi:i<(aI R 256).length:=by rw[mP,nI] at h1;exact h1
 have hrep:(aI R 256)[i]<256:=lN R 256 _ (List.getElem_mem hi)
 have hone:∀ c,mem (nM [n]) c=decide (n=c):=fun c=>by
  rw[Vk _ _ (by intro x hx;simp at hx;omega)];simp[eq_comm]
 have hnum:bf R (aI R 256)[i]=i:=by
  have h3:=DY (R:=R) (b:=(aI R 256)[i]) hi (E.refl _) (fun j hj=>by
   cases h:R (aI R 256)[i] ((aI R 256)[j]'(by omega)) with
   | false=>rfl
   | true =>
    have hs:=tu R 256 j i hj hi
    have:=rY E 256 (aI R 256)[i] ((aI R 256)[j]'(by omega)) (List.getElem_mem hi) hs
    rw[this] at h;cases h)
  unfold bf;rw[h3];rfl
 have hiff:=Ht E hrep hn
 rw[hnum] at hiff
 simp only[lT,List.getElem_map]
 by_cases hki:bf R n=i
 ·rw[if_pos hki]
  subst hki
  have hR:=hiff.1 rfl
  refine rU fun c hc=>?_
  rw[J5,rZ,rZ,hone]
  by_cases hcn:n=c
  ·subst hcn;simp[hc,hR]
  ·have:(c<n+1)↔(c<n):=by omega
   simp[hcn,this]
 ·rw[if_neg hki]
  have hR:R (aI R 256)[i] n=false:=by
   cases h:R (aI R 256)[i] n with
   | false=>rfl
   | true=>exact absurd (hiff.2 h).symm hki
  refine rU fun c hc=>?_
  rw[rZ,rZ]
  by_cases hcn:c=n
  ·subst hcn;simp[hR]
  ·have:(c<n+1)↔(c<n):=by omega
   simp[this]
def xP(G:Nat→Nat)(B p g m:Nat)(w:World)(L:List au)(w':World):Prop :=
 Box w' p (aS G) 22∧Own w' B 113 4 encS (.slice (some ⟨g,0,none⟩) m m) L∧Below B w w'∧p<g∧B≤g
theorem xP.kept{G:Nat→Nat}{B p g m:Nat}{w w1 w2:World}{L:List au}(h:xP G B p g m w L w1)(hb:Below w1.heap.size w1 w2)(hB:B≤w1.heap.size):xP G B p g m w L w2 :=
 ⟨h.1.kept hb,h.2.1.kept hb,h.2.2.1.trans (hb.mono hB),h.2.2.2⟩
theorem WU(f:Nat→Nat)(w:World) :
  Calls Tryz.prog 114 #[.agg (aS f)] w (iU w 113 4 encS (lT (aW (bH f)) 256)):=by
 have hz:=jX
 have hE:=oL (bH f)
 have hN:=D8 f
 have hm:=Hr (aW (bH f))
 have hlt:=fun n (hn:n<256)=>Hq hE.refl hn
 have h0:=Uy (aW (bH f))
 have hs:=fun n (hn:n<256) hk=>Uz hE (n:=n) hn hk
 have hl:=mP (aW (bH f))
 generalize lT (aW (bH f))=L at *
 generalize bf (aW (bH f))=G at *
 generalize iL (aW (bH f))=m at *
 have HN:=ah hN
 have H0:=ah h0
 have HS:=ah hs
 have HL:=ah hl
 have HG:=ah hlt
 clear hN h0 hs hl hlt hE
 go_enter Tryz.func114,Tryz.ntmps114
 go_wp2_with (first | (refine wpList_load_row rfl 22 (.tmp 1) rfl _ rfl _ _ _ _ (Box.new _ _ _) Tryz.underlying22 rfl (aT _) ?_) | (refine eX rfl 22 (.tmp 3) (.tmp 11) rfl _ _ rfl rfl rfl (aT _) (kU _ _) (gK _) ?_) | (go_at_call 112;go_must (refine(HN.out _).mono ?_;rintro e w1 ⟨rfl,hB⟩)) | (refine nZ rfl 190 _ _ rfl Jl wX 0 rfl m rfl rfl (by omega) (by simp[maxLen];omega) w.heap.size (by have:=hB.size;simp at this ⊢;omega) ?_;intro w2 ho agy;have HW:=ah agy;clear agy))
 have hw2:=HW.out
 rw[World.size_alloc] at ho
 have hx1:Box w2 w1.heap.size (aS G) 22:=by rw[hw2];exact(Box.new w1 _ _).alloc _
 have hB2:Below w.heap.size w w2:=by
  rw[hw2]
  exact(((((Below.refl w.heap.size w).alloc (Nat.le_refl _) _).trans (hB.mono (by simp))).alloc (by have:=hB.size;simp at this;omega) _).alloc (by have:=hB.size;simp at this ⊢;omega) _)
 have hp:w.heap.size≤w1.heap.size:=by have:=hB.size;simp at this;omega
 have hJ:xP G w.heap.size w1.heap.size (w1.heap.size+1) m w (L 0) w2:=⟨hx1,by rw[H0.out];exact ho,hB2,by omega,by omega⟩
 clear hw2 hx1 hB2 ho hB HW
 generalize w1.heap.size=p at *
 go_loopw [15] (fun i wr=>∃ n:Nat,n≤256∧i=.int .i64 n∧xP G w.heap.size p (p+1) m w (L n) wr) (fun i _=>256 - (intOf i).toNat)
 case atStart=>exact⟨0,Nat.zero_le _,rfl,hJ⟩
 case round =>
  clear hJ
  obtain⟨n,hn,rfl,hJ⟩:=hrel
  by_cases hlt:n<256
  ·have c0:=(hJ.1.cell n).trans (dS _ n hlt)
   have hk:=HG.out n hlt
   have hkl:G n<(L n).length:=by rw[HL.out];exact hk
   have e1:=HS.out n hlt hkl
   have HE:=ah e1
   have hof:=fun a cap w h=>Hw a cap [n] w h (by intro x hx;simp at hx;omega)
   have hcell:=fun w1 (h:xP G w.heap.size p (p+1) m w (L n) w1)=>h.2.1.cells4 hkl
   clear e1
   generalize (L n)[G n]=s at *
   have hcell2:∀ w1,xP G w.heap.size p (p+1) m w (L n) w1→_:=hcell
   generalize nM [n]=s1 at *
   have hun:∀ ad cap w,ak w (.slice ad 2 cap) 4 encS [s,s1]→Calls Tryz.prog 160 #[.slice ad 2 cap] w (aY w (iK (s ||| s1))):=fun ad cap w h=>by have:=D7 ad cap [s,s1] w h;rwa[Qp] at this
   generalize s ||| s1=t at *
   generalize G n=k at *
   have hJ0:xP G w.heap.size p (p+1) m w (L n) wr.drew:=hJ.kept (Below.refl _ _).drew (Nat.le_trans hJ.2.2.1.size (Nat.le_refl _))
   have hsz:w.heap.size≤wr.drew.heap.size:=hJ0.2.2.1.size
   have HF:Hid (∀ w1,Later wr.drew w1→xP G w.heap.size p (p+1) m w (L n) w1):=ah fun w1 hl=>hJ0.kept hl hsz
   have EK:=ah hof
   have HUN:=ah hun
   have HC:=ah hcell
   have hu8:IntKind.u8.wrap (n:Int)=(n:Int):=nH n hlt
   have hk0:(0:Int)≤(k:Int):=by omega
   have hkm:(k:Int)<(m:Int):=by omega
   clear hcell2 hcell hof hun hJ hJ0 hkl
   go_wp2_with fail
   refine aA (R:=Later) 13 (by kernel_rfl) ?_
   refine pl [0,1,2,3,4,5,6,7] ?_
   repeat
    refine dI ?_ rfl (fun w1 hl=>?_) ?_
    rotate_left
    ·have hJ:=HF.out w1 hl;obtain⟨⟨q0,q1,q2,q3⟩,_⟩:=HC.out w1 hJ;go_simp;try with_reducible rfl
    simp only[eA,eB,eC,Act.put,eD,eE,eF]
   refine bU ?_
   refine aP (t:=13) (i:=8) (by kernel_rfl) rfl (fun w1 hl K hK=>?_)
   go_simp
   refine hK.out _ _ (fun _=>aj _ _) ?_
   have hL1:Later wr.drew (w1.alloc (.cells #[.int .u8 (n:Nat)] 5)):=Later.trans _ _ _ hl (aj _ _)
   have hs1:=DL w1 n 5
   clear hK K
   refine EI 9 ?_ ?_ ?_ rfl (fun w1=>?_) (fun w1 hl=>?_) ?_
   rotate_left 4
   ·exact EK.out _ _ _ (hs1.kept hl)
   rotate_left
   ·go_simp
   simp only[eA,eB,eC,Act.put,eD,eE,eF]
   refine aP (t:=13) (i:=10) (by kernel_rfl) rfl (fun w1 hl K hK=>?_)
   go_simp
   refine hK.out _ _ (fun _=>aj _ _) ?_
   have hL2:=Later.trans _ _ _ hL1 (Later.trans _ _ _ hl (aj w1 (.cells #[.int .u64 (word s 0:Nat),.int .u64 (word s 1:Nat),.int .u64 (word s 2:Nat),.int .u64 (word s 3:Nat),.int .u64 (word s1 0:Nat),.int .u64 (word s1 1:Nat),.int .u64 (word s1 2:Nat),.int .u64 (word s1 3:Nat)] 113)))
   have hs2:=Nj w1 s s1 113
   clear hK K
   refine EI 11 ?_ ?_ ?_ rfl (fun w1=>?_) (fun w1 hl=>?_) ?_
   rotate_left 4
   ·exact HUN.out _ _ _ (hs2.kept hl)
   rotate_left
   ·go_simp
   simp only[eA,eB,eC,Act.put,eD,eE,eF]
   refine jM 12 ?_ rfl (fun w1 hl=>?_) ?_
   rotate_left
   ·skip;go_simp;try with_reducible rfl
   simp only[eA,eB,eC,Act.put,eD,eE,eF]
   refine aP (t:=13) (i:=13) (by kernel_rfl) rfl (fun w1 hl K hK=>?_)
   have hJ:=HF.out w1 (Later.trans _ _ _ hL2 hl)
   obtain⟨⟨q0,q1,q2,q3⟩,⟨f0,f1,f2,f3⟩⟩:=HC.out w1 hJ
   go_simp
   refine hK.out _ _ (fun h=>absurd rfl h) ?_
   clear hK K q0 q1 q2 q3 f0 f1 f2 f3
   have YV:xP G w.heap.size p (p+1) m w (L (n+1)) ((((w1.setCell ⟨p+1,k*4,none⟩ (.int .u64 (word t 0:Nat))).setCell ⟨p+1,k*4+1,none⟩ (.int .u64 (word t 1:Nat))).setCell ⟨p+1,k*4+2,none⟩ (.int .u64 (word t 2:Nat))).setCell ⟨p+1,k*4+3,none⟩ (.int .u64 (word t 3:Nat))):=by
    obtain⟨j1,j2,j3,j4,j5⟩:=hJ
    refine⟨j1.abz (by omega) _ _ _ _,?_,Fa j3 j5 _ _ _ _,j4,j5⟩
    rw[HE.out]
    exact j2.eG (by rw[HL.out];exact hk) rfl t
   refine aH (by kernel_rfl) (fun w1 hl=>?_) _
   have hJ5:=YV.kept hl (by have:=YV.2.2.1.size;exact this)
   clear hJ YV
   go_wp2
   go_roundw
   case rel=>exact⟨n+1,hlt,by go_num,hJ5⟩
   case measure=>simp[intOf];omega
  ·obtain rfl:n=256:=by omega
   go_wp2
   go_ret
   exact⟨some ⟨p+1,0,none⟩,m,by rw[HL.out];rfl,by rw[HL.out];exact hJ.2.1,hJ.2.2.1⟩
end
section
open Go.RowKit
theorem YW(L:List au)(i:Nat)(h:i<L.length)(c:Nat):vg (L.take (i+1)) c=if mem L[i] c then i else vg (L.take i) c:=by
 rw[List.take_succ_eq_append_getElem h,Oj,List.length_take,Nat.min_eq_left (Nat.le_of_lt h)]
def abT(L:List au)(w wr:World)(i:Value):Prop :=
 ∃ k:Nat,k≤L.length∧i=.int .i64 k∧Box wr w.heap.size (aS fun _=>0) 22∧Box wr (w.heap.size+1) (aS (vg (L.take k))) 22∧Below w.heap.size w wr
def abU(L:List au)(k:Nat)(w wr:World)(c:Value):Prop :=
 ∃ n:Nat,n≤256∧c=.int .i64 n∧Box wr w.heap.size (aS fun _=>0) 22∧Box wr (w.heap.size+1) (aS fun d=>if d<n then vg (L.take (k+1)) d else vg (L.take k) d) 22∧Below w.heap.size w wr
theorem abV{F G:Nat→Nat}{n v:Nat}(h:v=G n):∀ d,d<256→(if d=n then v else if d<n then G d else F d)=if d<n+1 then G d else F d:=by
 intro d _
 by_cases h1:d=n
 ·subst h1;simp[h]
 ·by_cases h2:d<n
  ·simp[h1,h2,show d<n+1 by omega]
  ·simp[h1,h2,show ¬ d<n+1 by omega]
theorem abW{F G:Nat→Nat}{n:Nat}(h:G n=F n):∀ d,d<256→(if d<n then G d else F d)=if d<n+1 then G d else F d:=by
 intro d _
 by_cases h1:d=n
 ·subst h1;simp[h]
 ·by_cases h2:d<n
  ·simp[h2,show d<n+1 by omega]
  ·simp[h2,show ¬ d<n+1 by omega]
theorem UA(a:Option Addr)(cap:Nat)(L:List au)(w:World)(h:ak w (.slice a L.length cap) 4 encS L)(hL:L.length≤256) :
  Calls Tryz.prog 128 #[.slice a L.length cap] w (aY w (.tuple #[.agg (aS (vg L)),.int .i64 (L.length:Nat)])):=by
 obtain⟨b,o,hlen,hcap,hcap',ha,hbl,hcell⟩:=h.sets
 clear hlen h hbl
 have HC:=ah hcell
 clear hcell
 have hz:=jX
 have hbd:(Program.built Tryz.prog 22 [])=some (aS fun _=>0):=by kernel_rfl
 go_enter Tryz.func128,Tryz.ntmps128
 go_wp2_with (refine eX rfl 22 (.tmp 4) (.tmp 7) rfl _ _ rfl rfl (by simp) (aT _) (kU _ _) (gK _) ?_)
 go_loopw [5] (fun i wr=>abT L w wr i) (fun i _=>L.length - (intOf i).toNat)
 case atStart=>exact⟨0,Nat.zero_le _,rfl,(Box.new' rfl _ _).alloc _,Box.new' (World.size_alloc _ _).symm _ _,by go_grown⟩
 case round =>
  obtain⟨k,hk,rfl,hb0,hb1,hB⟩:=hrel
  by_cases hlt:k<L.length
  ·obtain rfl:=ha k hlt
   have hd:decide ((k:Int)<(L.length:Int))=true:=by simp;omega
   go_wp2
   clear hd
   go_loopw [6] (fun c w2=>abU L k w w2 c) (fun c _=>256 - (intOf c).toNat)
   case atStart=>exact⟨0,Nat.zero_le _,rfl,hb0,by rw[dP (g:=vg (L.take k)) (fun i _=>by simp)];exact hb1,hB⟩
   case round =>
    obtain⟨n,hn,rfl,hc0,hc1,hB2⟩:=hrel
    by_cases hn2:n<256
    ·obtain⟨c0,c1,c2,c3⟩:=HC.out k hlt _ hB2
     have hnt:=YW L k hlt n
     have HN:=ah hnt
     have hwr:=nH k (by omega)
     clear hnt
     cases hm:mem L[k] n with
     | true =>
      have HM:=ah hm
      go_wp2_with (go_at_call 166;go_must (refine(Vq _ _ _ hn2).mono ?_;rintro e w3 ⟨rfl,hB3⟩;rw[HM.out];have hB4:=hB2.trans (hB3.mono hB2.size);have hx0:=hc0.kept hB3;have hx1:=hc1.kept hB3;have hf:=hx1.free n;have hc:=(hx1.cell n).trans (dS _ n hn2)))
      go_roundw
      case rel =>
       refine⟨n+1,hn2,by go_num,hx0.other _ _ (by simp),?_,by go_grown⟩
       have:=hx1.set n (.int .u8 (k:Nat))
       rw[uD,dP (abV (by rw[HN.out,HM.out];rfl))] at this
       exact this
      case measure=>simp[intOf];omega
     | false =>
      have HM:=ah hm
      go_wp2_with (go_at_call 166;go_must (refine(Vq _ _ _ hn2).mono ?_;rintro e w3 ⟨rfl,hB3⟩;rw[HM.out];have hB4:=hB2.trans (hB3.mono hB2.size);have hx0:=hc0.kept hB3;have hx1:=hc1.kept hB3))
      go_roundw
      case rel =>
       refine⟨n+1,hn2,by go_num,hx0,?_,hB4⟩
       rw[dP (abW (by rw[HN.out,HM.out];rfl))] at hx1
       exact hx1
      case measure=>simp[intOf];omega
    ·obtain rfl:n=256:=by omega
     go_wp2
     go_roundw
     case rel =>
      refine⟨k+1,hlt,by go_num,hc0,?_,hB2⟩
      rw[dP (g:=vg (L.take (k+1))) (fun i hi=>if_pos hi)] at hc1
      exact hc1
     case measure=>simp[intOf];omega
  ·obtain rfl:k=L.length:=by omega
   rw[List.take_length] at hb1
   go_wp2_with (first | (refine wpList_load_row rfl 22 (.tmp 4) rfl _ rfl _ _ _ _ hb1 Tryz.underlying22 rfl (aT _) ?_) | (refine wpList_store_row rfl 22 (.tmp 2) (.tmp 28) rfl w.heap.size _ rfl rfl _ _ hb0 (aT _) (kU _ _) (gK _) ?_))
   exact fP Tryz.results128 rfl rfl (hb0.setRow _) Tryz.underlying22 rfl (aT _) rfl ⟨rfl,below_setRow hB (Nat.le_refl _) _⟩
end
end Go.Proofs.YtengfapcaaacaaaGreatDoor
