/- The texts of E6, in few letters (mini.py). -/
import Derived.Test.YtengfapcaaacaaaGreatDoorF5
set_option linter.unusedVariables false
set_option linter.unusedSimpArgs false
set_option maxRecDepth 20000
set_option maxHeartbeats 1600000
namespace Go.Proofs.YtengfapcaaacaaaGreatDoor
section
open Go.RowKit
theorem zJ:dI Tryz.prog 190 113 (.agg #[.int .u64 0,.int .u64 0,.int .u64 0,.int .u64 0]) 4 32 :=
 ⟨Tryz.underlying190,info_parts (by kernel_rfl),rfl,by decide⟩
theorem QW(l:List aF)(i:Nat)(h:i<l.length)(b c:Nat):RL (l.take (i+1)) b c=(RL (l.take i) b c&&(mem l[i] b==mem l[i] c)):=by
 rw[List.take_succ_eq_append_getElem h,Nl]
theorem acY(l:List aF)(i:Nat)(h:i<l.length)(b c:Nat)(hm:(mem l[i] b==mem l[i] c)=false):RL l b c=false:=by
 unfold RL
 rw[List.all_eq_false]
 exact⟨l[i],List.getElem_mem h,by simp[hm]⟩
theorem ZN(a:Option Addr)(cap:Nat)(l:List aF)(x y:Nat)(w:World)(h:au w (.slice a l.length cap) 4 encS l)(hx:x<256)(hy:y<256) :
  Calls Tryz.prog 208 #[.slice a l.length cap,.int .i64 x,.int .i64 y] w (bF w (.bool (RL l x y))):=by
 obtain⟨b,o,hlen,hcap,hcap',ha,hbl,hcell⟩:=h.sets
 clear hlen h
 have HC:=ah hcell
 clear hcell
 go_enter Tryz.func208,Tryz.ntmps208
 go_wp2
 go_loopw [7] (fun i wr=>∃ j:Nat,j≤l.length∧i=.int .i64 j∧RL (l.take j) x y=true∧Below w.heap.size w wr) (fun i _=>l.length - (intOf i).toNat)
 case atStart=>exact⟨0,Nat.zero_le _,rfl,rfl,Below.refl _ _⟩
 case round =>
  obtain⟨j,hj,rfl,hR,hB⟩:=hrel
  have HR:=ah hR
  clear hR
  by_cases hlt:j<l.length
  ·obtain rfl:=ha j hlt
   obtain⟨c0,c1,c2,c3⟩:=HC.out j hlt wr hB
   have hrs:=QW l j hlt x y
   have hrf:=acY l j hlt x y
   have HS:=ah hrs
   have HF:=ah hrf
   clear hrs hrf ha
   generalize l[j]=s at *
   have hkeep:∀ wi w1:World,((wi.cell? ⟨b,o+j*4,none⟩=some (.int .u64 (word s 0:Nat))∧wi.cell? ⟨b,o+j*4+1,none⟩=some (.int .u64 (word s 1:Nat))∧wi.cell? ⟨b,o+j*4+2,none⟩=some (.int .u64 (word s 2:Nat))∧wi.cell? ⟨b,o+j*4+3,none⟩=some (.int .u64 (word s 3:Nat)))∧Below w.heap.size w wi)→Below wi.heap.size wi w1→((w1.cell? ⟨b,o+j*4,none⟩=some (.int .u64 (word s 0:Nat))∧w1.cell? ⟨b,o+j*4+1,none⟩=some (.int .u64 (word s 1:Nat))∧w1.cell? ⟨b,o+j*4+2,none⟩=some (.int .u64 (word s 2:Nat))∧w1.cell? ⟨b,o+j*4+3,none⟩=some (.int .u64 (word s 3:Nat)))∧Below w.heap.size w w1) :=
    fun wi w1 ⟨⟨k0,k1,k2,k3⟩,k4⟩ hb=>⟨⟨(hb.cell (World.block_lt_of_cell? wi _ k0)).trans k0,(hb.cell (World.block_lt_of_cell? wi _ k1)).trans k1,(hb.cell (World.block_lt_of_cell? wi _ k2)).trans k2,(hb.cell (World.block_lt_of_cell? wi _ k3)).trans k3⟩,k4.trans (hb.mono k4.size)⟩
   have HK:=ah hkeep
   clear hkeep
   go_wp2_with fail
   go_region_held3 (fun w'=>(w'.cell? ⟨b,o+j*4,none⟩=some (.int .u64 (word s 0:Nat))∧w'.cell? ⟨b,o+j*4+1,none⟩=some (.int .u64 (word s 1:Nat))∧w'.cell? ⟨b,o+j*4+2,none⟩=some (.int .u64 (word s 2:Nat))∧w'.cell? ⟨b,o+j*4+3,none⟩=some (.int .u64 (word s 3:Nat)))∧Below w.heap.size w w') (first | exact⟨⟨c0,c1,c2,c3⟩,hB.drew⟩ | exact HK.out _ _ (by assumption) hb) (first | (go_at_call_of 166 (Value.int IntKind.i64 (x:Int));refine(zB _ _ _ hx).mono ?_;rintro e w1 ⟨rfl,hb⟩) | (go_at_call_of 166 (Value.int IntKind.i64 (y:Int));refine(zB _ _ _ hy).mono ?_;rintro e w1 ⟨rfl,hb⟩))
   all_goals
    rename_i hS
    obtain⟨_,hB2⟩:=hS
    cases hm:(mem s x==mem s y) with
    | true =>
     go_wp2
     go_roundw
     case rel =>
      refine⟨j+1,hlt,by go_num,?_,hB2⟩
      rw[HS.out,HR.out,hm];rfl
     case measure=>simp[intOf];omega
    | false =>
     go_wp2
     go_ret
     exact⟨by rw[HF.out hm];rfl,hB2⟩
  ·go_wp2
   go_ret
   obtain rfl:j=l.length:=by omega
   have:=HR.out
   rw[List.take_length] at this
   exact⟨by rw[this];rfl,hB⟩
def XQ(R:Nat→Nat→Bool)(n:Nat)(a':Option Addr)(cap':Nat)(w w2:World)(f j:Value):Prop :=
 ∃ k:Nat,j=.int .i64 k∧k≤(aC R n).length+1∧Below w.heap.size w w2∧((f=.bool false∧k≤(aC R n).length∧(∀ i (hi:i<(aC R n).length),i<k→R (aC R n)[i] n=false)∧Own w2 w.heap.size 113 4 encS (.slice a' (aC R n).length cap') ((aC R n).map (cls R n))) ∨
     (f=.bool true∧∃ (p:Nat) (hp:p<(aC R n).length),R (aC R n)[p] n=true∧Own w2 w.heap.size 113 4 encS (.slice a' (aC R n).length cap') (((aC R n).map (cls R n)).set p (lI (cls R n (aC R n)[p]) n))))
def XR(R:Nat→Nat→Bool)(w wr:World)(v i:Value):Prop :=
 ∃ (n:Nat) (a':Option Addr) (cap':Nat),n≤256∧i=.int .i64 n∧v=.slice a' (aC R n).length cap'∧Own wr w.heap.size 113 4 encS (.slice a' (aC R n).length cap') ((aC R n).map (cls R n))∧Below w.heap.size w wr
theorem ZO(a:Option Addr)(cap:Nat)(l:List aF)(w:World)(h:au w (.slice a l.length cap) 4 encS l) :
  Calls Tryz.prog 164 #[.slice a l.length cap] w (fV w 113 4 encS ((aC (RL l) 256).map (cls (RL l) 256))):=by
 have E:=Nk l
 have HA:=fun x y (wx:World) (hB:Below w.heap.size w wx) hx hy=>ZN a cap l x y wx (h.kept hB) hx hy
 generalize hR:RL l=R at *
 clear hR
 have HAL:=ah HA
 clear HA
 go_enter Tryz.func164,Tryz.ntmps164
 go_wp2
 go_loopw [3,4] (fun v i wr=>XR R w wr v i) (fun _ i _=>256 - (intOf i).toNat)
 case atStart =>
  refine⟨0,some ⟨w.heap.size,0,none⟩,0,Nat.zero_le _,rfl,?_,?_,by go_grown⟩
  ·rw[AP];rfl
  ·rw[AP];exact Own.empty _ _ _ _ _ (Nat.le_refl _)
 case round =>
  obtain⟨n,a',cap',hn,rfl,rfl,hown,hB⟩:=hrel
  by_cases hlt:n<256
  ·have hd:decide ((n:Int)<256)=true:=by simp;omega
   go_wp2
   clear hd
   have hlen:=gU R n
   go_loopw [5,6] (fun f j w2=>XQ R n a' cap' w w2 f j) (fun f j _=>(aC R n).length+1 - (intOf j).toNat)
   case atStart=>exact⟨0,rfl,by omega,hB,.inl ⟨rfl,Nat.zero_le _,fun i hi h=>absurd h (Nat.not_lt_zero i),hown⟩⟩
   case round =>
    obtain⟨k,rfl,hk1,hB2,⟨rfl,hk,hno,hown2⟩ | ⟨rfl,p,hp,hRp,hown2⟩⟩:=hrel
    ·by_cases hlt2:k<(aC R n).length
     ·obtain⟨g,rfl,hg1,hg2⟩:=hown2.addr (by omega)
      have hlt3:k<((aC R n).map (cls R n)).length:=by simpa using hlt2
      obtain⟨⟨r0,r1,r2,r3⟩,_⟩:=hown2.cells4 hlt3
      rw[List.getElem_map] at r0 r1 r2 r3
      have hc:=jQ R n _ (List.getElem_mem hlt2)
      have hls:=Ol E (n:=n) (by omega) (List.getElem_mem hlt2)
      have HL:=ah hls
      have HN:=ah hno
      clear hls hno
      cases hRc:R (aC R n)[k] n with
      | false =>
       have HR:=ah hRc
       clear hRc
       go_wp2_with (first | (go_at_call 122;go_must (refine(E8 _ _).mono ?_;rintro e w3 ⟨rfl,hB3⟩;rw[HL.out];have hB4:=hB2.trans (hB3.mono hB2.size);have hown3:=hown2.kept hB3)) | (go_at_call 208;go_must (refine(HAL.out _ _ _ hB4 (by omega) (by omega)).mono ?_;rintro e w4 ⟨rfl,bI⟩;rw[HR.out];have fF:=hB4.trans (bI.mono hB4.size);have hown4:=hown3.kept bI)))
       go_roundw
       case rel =>
        refine⟨k+1,by go_num,by omega,fF,.inl ⟨rfl,hlt2,fun i hi h=>?_,hown4⟩⟩
        by_cases hik:i=k
        ·subst hik;exact HR.out
        ·exact HN.out i hi (by omega)
       case measure=>simp[intOf];omega
      | true =>
       have HR:=ah hRc
       clear hRc
       go_wp2_with (first | (go_at_call 122;go_must (refine(E8 _ _).mono ?_;rintro e w3 ⟨rfl,hB3⟩;rw[HL.out];have hB4:=hB2.trans (hB3.mono hB2.size);have hown3:=hown2.kept hB3)) | (go_at_call 208;go_must (refine(HAL.out _ _ _ hB4 (by omega) (by omega)).mono ?_;rintro e w4 ⟨rfl,bI⟩;rw[HR.out];have fF:=hB4.trans (bI.mono hB4.size);have hown4:=hown3.kept bI;obtain⟨⟨s0,s1,s2,s3⟩,_⟩:=hown4.cells4 hlt3;rw[List.getElem_map] at s0 s1 s2 s3)) | (go_at_call 165;go_must (refine(Jc _ _ _ hlt).mono ?_;rintro e w5 ⟨rfl,iH⟩;have jZ:=fF.trans (iH.mono fF.size);have hown5:=hown4.kept iH;obtain⟨⟨t0,t1,t2,t3⟩,⟨f0,f1,f2,f3⟩⟩:=hown5.cells4 hlt3)))
       go_roundw
       case rel=>exact⟨k+1,by go_num,by omega,by go_grown,.inr ⟨rfl,k,hlt2,HR.out,hown5.sO hlt3 rfl _⟩⟩
       case measure=>simp[intOf];omega
     ·obtain rfl:k=(aC R n).length:=by omega
      obtain⟨e1,e2⟩:=agG E hlt (fun i hi=>hno i hi hi)
      have QX:=ah e1
      have HE2:=ah e2
      clear e1 e2 hno
      go_wp2_with (first | (go_at_call 209;go_must (refine(acV n n _ hlt).mono ?_;rintro e w3 ⟨rfl,hB3⟩;have hB4:=hB2.trans (hB3.mono hB2.size);have hown3:=hown2.kept hB3)) | (at_builtin;go_must (refine dK rfl _ _ 190 rfl zJ nC rfl (hown3.alloc _) ⟨w3.heap.size,0,none⟩ 1 (oO fun b=>decide (n≤b)&&decide (b≤n)) rfl ?_ ?_ ?_ ?_ ?_)))
      ·exact bW w3 _ _
      ·simp[maxLen];omega
      ·simp;omega
      ·have:=hB4.size;simp;omega
      intro a2 cap2 w6 hown6 QY
      have bI:=below_grown (hB4.alloc hB4.size _) (hown3.alloc _) QY (Nat.le_refl _) (by have:=hB4.size;simp;omega)
      go_wp2
      go_roundw
      case rel =>
       refine⟨n+1,a2,cap2,hlt,by go_num,?_,?_,bI⟩
       ·rw[QX.out];simp
       ·rw[HE2.out] at hown6
        have e:(aC R n).length+1=(aC R (n+1)).length:=by rw[QX.out];simp
        rw[←e];exact hown6
      case measure=>simp[intOf];omega
    ·obtain⟨e1,e2⟩:=agF E hlt hp hRp
     have QX:=ah e1
     have HE2:=ah e2
     clear e1 e2
     go_wp2
     all_goals
      go_roundw
      case rel =>
       refine⟨n+1,a',cap',hlt,by go_num,by rw[QX.out],?_,hB2⟩
       rw[HE2.out] at hown2
       rw[QX.out];exact hown2
      case measure=>simp[intOf];omega
  ·obtain rfl:n=256:=by omega
   go_wp2
   go_ret
   refine⟨a',cap',?_,?_,hB⟩
   ·rw[List.length_map];rfl
   ·rw[List.length_map];exact hown
end
section
open Go.RowKit
def kV(R:Nat→Nat→Bool)(n:Nat):List aF:=(aC R 256).map (cls R n)
theorem lu(R:Nat→Nat→Bool)(n:Nat):(kV R n).length=iq R:=by rw[kV,List.length_map,jK]
theorem U0(R:Nat→Nat→Bool):kV R 0=List.replicate (iq R) 0:=by
 rw[kV,jK,←List.map_const']
 refine List.map_congr_left fun c _=>mM fun b hb=>?_
 rw[jo,Dw];simp
theorem U3{R:Nat→Nat→Bool}(E:su R){n:Nat}(hn:n<256)(hk:aT R n<(kV R n).length) :
  kV R (n+1)=(kV R n).set (aT R n) ((kV R n)[aT R n] ||| uH [n]):=by
 have hlen:=lu R n
 refine List.ext_getElem (by rw[List.length_set,lu,lu]) fun i h1 h2=>?_
 rw[List.getElem_set]
 have hi:i<(aC R 256).length:=by rw[lu,jK] at h1;exact h1
 have hrep:(aC R 256)[i]<256:=jQ R 256 _ (List.getElem_mem hi)
 have hone:∀ c,mem (uH [n]) c=decide (n=c):=fun c=>by
  rw[VN _ _ (by intro x hx;simp at hx;omega)];simp[eq_comm]
 have hnum:aT R (aC R 256)[i]=i:=by
  have h3:=DL (R:=R) (b:=(aC R 256)[i]) hi (E.refl _) (fun j hj=>by
   cases h:R (aC R 256)[i] ((aC R 256)[j]'(by omega)) with
   | false=>rfl
   | true =>
    have hs:=nT R 256 j i hj hi
    have:=lJ E 256 (aC R 256)[i] ((aC R 256)[j]'(by omega)) (List.getElem_mem hi) hs
    rw[this] at h;cases h)
  unfold aT;rw[h3];rfl
 have hiff:=CG E hrep hn
 rw[hnum] at hiff
 simp only[kV,List.getElem_map]
 by_cases hki:aT R n=i
 ·rw[if_pos hki]
  subst hki
  have hR:=hiff.1 rfl
  refine mM fun c hc=>?_
  rw[JX,jo,jo,hone]
  by_cases hcn:n=c
  ·subst hcn;simp[hc,hR]
  ·have:(c<n+1)↔(c<n):=by omega
   simp[hcn,this]
 ·rw[if_neg hki]
  have hR:R (aC R 256)[i] n=false:=by
   cases h:R (aC R 256)[i] n with
   | false=>rfl
   | true=>exact absurd (hiff.2 h).symm hki
  refine mM fun c hc=>?_
  rw[jo,jo]
  by_cases hcn:c=n
  ·subst hcn;simp[hR]
  ·have:(c<n+1)↔(c<n):=by omega
   simp[this]
def xG(G:Nat→Nat)(B p g m:Nat)(w:World)(L:List aF)(w':World):Prop :=
 Box w' p (aG G) 22∧Own w' B 113 4 encS (.slice (some ⟨g,0,none⟩) m m) L∧Below B w w'∧p<g∧B≤g
theorem xG.kept{G:Nat→Nat}{B p g m:Nat}{w w1 w2:World}{L:List aF}(h:xG G B p g m w L w1)(hb:Below w1.heap.size w1 w2)(hB:B≤w1.heap.size):xG G B p g m w L w2 :=
 ⟨h.1.kept hb,h.2.1.kept hb,h.2.2.1.trans (hb.mono hB),h.2.2.2⟩
theorem XT(f:Nat→Nat)(w:World) :
  Calls Tryz.prog 114 #[.agg (aG f)] w (fV w 113 4 encS (kV (aH (aY f)) 256)):=by
 have hz:=gZ
 have hE:=gY (aY f)
 have hN:=DU f
 have hm:=CB (aH (aY f))
 have hlt:=fun n (hn:n<256)=>Cm hE.refl hn
 have h0:=U0 (aH (aY f))
 have hs:=fun n (hn:n<256) hk=>U3 hE (n:=n) hn hk
 have hl:=lu (aH (aY f))
 generalize kV (aH (aY f))=L at *
 generalize aT (aH (aY f))=G at *
 generalize iq (aH (aY f))=m at *
 have HN:=ah hN
 have H0:=ah h0
 have HS:=ah hs
 have HL:=ah hl
 have HG:=ah hlt
 clear hN h0 hs hl hlt hE
 go_enter Tryz.func114,Tryz.ntmps114
 go_wp2_with (first | (refine wpList_load_row rfl 22 (.tmp 1) rfl _ rfl _ _ _ _ (Box.new _ _ _) Tryz.underlying22 rfl (aK _) ?_) | (refine dW rfl 22 (.tmp 3) (.tmp 11) rfl _ _ rfl rfl rfl (aK _) (iF _ _) (eu _) ?_) | (go_at_call 112;go_must (refine(HN.out _).mono ?_;rintro e w1 ⟨rfl,hB⟩)) | (refine zG rfl 190 _ _ rfl zJ nC 0 rfl m rfl rfl (by omega) (by simp[maxLen];omega) w.heap.size (by have:=hB.size;simp at this ⊢;omega) ?_;intro w2 ho ahC;have HW:=ah ahC;clear ahC))
 have hw2:=HW.out
 rw[World.size_alloc] at ho
 have hx1:Box w2 w1.heap.size (aG G) 22:=by rw[hw2];exact(Box.new w1 _ _).alloc _
 have hB2:Below w.heap.size w w2:=by
  rw[hw2]
  exact(((((Below.refl w.heap.size w).alloc (Nat.le_refl _) _).trans (hB.mono (by simp))).alloc (by have:=hB.size;simp at this;omega) _).alloc (by have:=hB.size;simp at this ⊢;omega) _)
 have hp:w.heap.size≤w1.heap.size:=by have:=hB.size;simp at this;omega
 have hJ:xG G w.heap.size w1.heap.size (w1.heap.size+1) m w (L 0) w2:=⟨hx1,by rw[H0.out];exact ho,hB2,by omega,by omega⟩
 clear hw2 hx1 hB2 ho hB HW
 generalize w1.heap.size=p at *
 go_loopw [15] (fun i wr=>∃ n:Nat,n≤256∧i=.int .i64 n∧xG G w.heap.size p (p+1) m w (L n) wr) (fun i _=>256 - (intOf i).toNat)
 case atStart=>exact⟨0,Nat.zero_le _,rfl,hJ⟩
 case round =>
  clear hJ
  obtain⟨n,hn,rfl,hJ⟩:=hrel
  by_cases hlt:n<256
  ·have c0:=(hJ.1.cell n).trans (dG _ n hlt)
   have hk:=HG.out n hlt
   have hkl:G n<(L n).length:=by rw[HL.out];exact hk
   have e1:=HS.out n hlt hkl
   have HE:=ah e1
   have hof:=fun a cap w h=>VR a cap [n] w h (by intro x hx;simp at hx;omega)
   have hcell:=fun w1 (h:xG G w.heap.size p (p+1) m w (L n) w1)=>h.2.1.cells4 hkl
   clear e1
   generalize (L n)[G n]=s at *
   have hcell2:∀ w1,xG G w.heap.size p (p+1) m w (L n) w1→_:=hcell
   generalize uH [n]=s1 at *
   have hun:∀ ad cap w,au w (.slice ad 2 cap) 4 encS [s,s1]→Calls Tryz.prog 160 #[.slice ad 2 cap] w (bF w (mY (s ||| s1))):=fun ad cap w h=>by have:=XM ad cap [s,s1] w h;rwa[ahx] at this
   generalize s ||| s1=t at *
   generalize G n=k at *
   have hJ0:xG G w.heap.size p (p+1) m w (L n) wr.drew:=hJ.kept (Below.refl _ _).drew (Nat.le_trans hJ.2.2.1.size (Nat.le_refl _))
   have hsz:w.heap.size≤wr.drew.heap.size:=hJ0.2.2.1.size
   have HF:Hid (∀ w1,Later wr.drew w1→xG G w.heap.size p (p+1) m w (L n) w1):=ah fun w1 hl=>hJ0.kept hl hsz
   have yR:=ah hof
   have HUN:=ah hun
   have HC:=ah hcell
   have ZP:IntKind.u8.wrap (n:Int)=(n:Int):=kM n hlt
   have hk0:(0:Int)≤(k:Int):=by omega
   have hkm:(k:Int)<(m:Int):=by omega
   clear hcell2 hcell hof hun hJ hJ0 hkl
   go_wp2_with fail
   refine aO (R:=Later) 13 (by kernel_rfl) ?_
   refine pl [0,1,2,3,4,5,6,7] ?_
   repeat
    refine dR ?_ rfl (fun w1 hl=>?_) ?_
    rotate_left
    ·have hJ:=HF.out w1 hl;obtain⟨⟨q0,q1,q2,q3⟩,_⟩:=HC.out w1 hJ;go_simp;try with_reducible rfl
    simp only[eA,eB,eC,Act.put,eD,eE,eF]
   refine bV ?_
   refine bg (t:=13) (i:=8) (by kernel_rfl) rfl (fun w1 hl K hK=>?_)
   go_simp
   refine hK.out _ _ (fun _=>aj _ _) ?_
   have hL1:Later wr.drew (w1.alloc (.cells #[.int .u8 (n:Nat)] 5)):=Later.trans _ _ _ hl (aj _ _)
   have hs1:=QC w1 n 5
   clear hK K
   refine yg 9 ?_ ?_ ?_ rfl (fun w1=>?_) (fun w1 hl=>?_) ?_
   rotate_left 4
   ·exact yR.out _ _ _ (hs1.kept hl)
   rotate_left
   ·go_simp
   simp only[eA,eB,eC,Act.put,eD,eE,eF]
   refine bg (t:=13) (i:=10) (by kernel_rfl) rfl (fun w1 hl K hK=>?_)
   go_simp
   refine hK.out _ _ (fun _=>aj _ _) ?_
   have hL2:=Later.trans _ _ _ hL1 (Later.trans _ _ _ hl (aj w1 (.cells #[.int .u64 (word s 0:Nat),.int .u64 (word s 1:Nat),.int .u64 (word s 2:Nat),.int .u64 (word s 3:Nat),.int .u64 (word s1 0:Nat),.int .u64 (word s1 1:Nat),.int .u64 (word s1 2:Nat),.int .u64 (word s1 3:Nat)] 113)))
   have hs2:=agE w1 s s1 113
   clear hK K
   refine yg 11 ?_ ?_ ?_ rfl (fun w1=>?_) (fun w1 hl=>?_) ?_
   rotate_left 4
   ·exact HUN.out _ _ _ (hs2.kept hl)
   rotate_left
   ·go_simp
   simp only[eA,eB,eC,Act.put,eD,eE,eF]
   refine jF 12 ?_ rfl (fun w1 hl=>?_) ?_
   rotate_left
   ·skip;go_simp;try with_reducible rfl
   simp only[eA,eB,eC,Act.put,eD,eE,eF]
   refine bg (t:=13) (i:=13) (by kernel_rfl) rfl (fun w1 hl K hK=>?_)
   have hJ:=HF.out w1 (Later.trans _ _ _ hL2 hl)
   obtain⟨⟨q0,q1,q2,q3⟩,⟨f0,f1,f2,f3⟩⟩:=HC.out w1 hJ
   go_simp
   refine hK.out _ _ (fun h=>absurd rfl h) ?_
   clear hK K q0 q1 q2 q3 f0 f1 f2 f3
   have ZQ:xG G w.heap.size p (p+1) m w (L (n+1)) ((((w1.setCell ⟨p+1,k*4,none⟩ (.int .u64 (word t 0:Nat))).setCell ⟨p+1,k*4+1,none⟩ (.int .u64 (word t 1:Nat))).setCell ⟨p+1,k*4+2,none⟩ (.int .u64 (word t 2:Nat))).setCell ⟨p+1,k*4+3,none⟩ (.int .u64 (word t 3:Nat))):=by
    obtain⟨j1,j2,j3,j4,j5⟩:=hJ
    refine⟨j1.acC (by omega) _ _ _ _,?_,QD j3 j5 _ _ _ _,j4,j5⟩
    rw[HE.out]
    exact j2.sO (by rw[HL.out];exact hk) rfl t
   refine aV (by kernel_rfl) (fun w1 hl=>?_) _
   have hJ5:=ZQ.kept hl (by have:=ZQ.2.2.1.size;exact this)
   clear hJ ZQ
   go_wp2
   go_roundw
   case rel=>exact⟨n+1,hlt,by go_num,hJ5⟩
   case measure=>simp[intOf];omega
  ·obtain rfl:n=256:=by omega
   go_wp2
   go_ret
   exact⟨some ⟨p+1,0,none⟩,m,by rw[HL.out];rfl,by rw[HL.out];exact hJ.2.1,hJ.2.2.1⟩
end
section
open Go.RowKit
theorem ZR(L:List aF)(i:Nat)(h:i<L.length)(c:Nat):uz (L.take (i+1)) c=if mem L[i] c then i else uz (L.take i) c:=by
 rw[List.take_succ_eq_append_getElem h,Om,List.length_take,Nat.min_eq_left (Nat.le_of_lt h)]
def acZ(L:List aF)(w wr:World)(i:Value):Prop :=
 ∃ k:Nat,k≤L.length∧i=.int .i64 k∧Box wr w.heap.size (aG fun _=>0) 22∧Box wr (w.heap.size+1) (aG (uz (L.take k))) 22∧Below w.heap.size w wr
def ac0(L:List aF)(k:Nat)(w wr:World)(c:Value):Prop :=
 ∃ n:Nat,n≤256∧c=.int .i64 n∧Box wr w.heap.size (aG fun _=>0) 22∧Box wr (w.heap.size+1) (aG fun d=>if d<n then uz (L.take (k+1)) d else uz (L.take k) d) 22∧Below w.heap.size w wr
theorem ac1{F G:Nat→Nat}{n v:Nat}(h:v=G n):∀ d,d<256→(if d=n then v else if d<n then G d else F d)=if d<n+1 then G d else F d:=by
 intro d _
 by_cases h1:d=n
 ·subst h1;simp[h]
 ·by_cases h2:d<n
  ·simp[h1,h2,show d<n+1 by omega]
  ·simp[h1,h2,show ¬ d<n+1 by omega]
theorem ac2{F G:Nat→Nat}{n:Nat}(h:G n=F n):∀ d,d<256→(if d<n then G d else F d)=if d<n+1 then G d else F d:=by
 intro d _
 by_cases h1:d=n
 ·subst h1;simp[h]
 ·by_cases h2:d<n
  ·simp[h2,show d<n+1 by omega]
  ·simp[h2,show ¬ d<n+1 by omega]
theorem Hy(a:Option Addr)(cap:Nat)(L:List aF)(w:World)(h:au w (.slice a L.length cap) 4 encS L)(hL:L.length≤256) :
  Calls Tryz.prog 128 #[.slice a L.length cap] w (bF w (.tuple #[.agg (aG (uz L)),.int .i64 (L.length:Nat)])):=by
 obtain⟨b,o,hlen,hcap,hcap',ha,hbl,hcell⟩:=h.sets
 clear hlen h hbl
 have HC:=ah hcell
 clear hcell
 have hz:=gZ
 have hbd:(Program.built Tryz.prog 22 [])=some (aG fun _=>0):=by kernel_rfl
 go_enter Tryz.func128,Tryz.ntmps128
 go_wp2_with (refine dW rfl 22 (.tmp 4) (.tmp 7) rfl _ _ rfl rfl (by simp) (aK _) (iF _ _) (eu _) ?_)
 go_loopw [5] (fun i wr=>acZ L w wr i) (fun i _=>L.length - (intOf i).toNat)
 case atStart=>exact⟨0,Nat.zero_le _,rfl,(Box.new' rfl _ _).alloc _,Box.new' (World.size_alloc _ _).symm _ _,by go_grown⟩
 case round =>
  obtain⟨k,hk,rfl,hb0,hb1,hB⟩:=hrel
  by_cases hlt:k<L.length
  ·obtain rfl:=ha k hlt
   have hd:decide ((k:Int)<(L.length:Int))=true:=by simp;omega
   go_wp2
   clear hd
   go_loopw [6] (fun c w2=>ac0 L k w w2 c) (fun c _=>256 - (intOf c).toNat)
   case atStart=>exact⟨0,Nat.zero_le _,rfl,hb0,by rw[bY (g:=uz (L.take k)) (fun i _=>by simp)];exact hb1,hB⟩
   case round =>
    obtain⟨n,hn,rfl,hc0,hc1,hB2⟩:=hrel
    by_cases hn2:n<256
    ·obtain⟨c0,c1,c2,c3⟩:=HC.out k hlt _ hB2
     have hnt:=ZR L k hlt n
     have HN:=ah hnt
     have hwr:=kM k (by omega)
     clear hnt
     cases hm:mem L[k] n with
     | true =>
      have HM:=ah hm
      go_wp2_with (go_at_call 166;go_must (refine(zB _ _ _ hn2).mono ?_;rintro e w3 ⟨rfl,hB3⟩;rw[HM.out];have hB4:=hB2.trans (hB3.mono hB2.size);have hx0:=hc0.kept hB3;have hx1:=hc1.kept hB3;have hf:=hx1.free n;have hc:=(hx1.cell n).trans (dG _ n hn2)))
      go_roundw
      case rel =>
       refine⟨n+1,hn2,by go_num,hx0.other _ _ (by simp),?_,by go_grown⟩
       have:=hx1.set n (.int .u8 (k:Nat))
       rw[o9,bY (ac1 (by rw[HN.out,HM.out];rfl))] at this
       exact this
      case measure=>simp[intOf];omega
     | false =>
      have HM:=ah hm
      go_wp2_with (go_at_call 166;go_must (refine(zB _ _ _ hn2).mono ?_;rintro e w3 ⟨rfl,hB3⟩;rw[HM.out];have hB4:=hB2.trans (hB3.mono hB2.size);have hx0:=hc0.kept hB3;have hx1:=hc1.kept hB3))
      go_roundw
      case rel =>
       refine⟨n+1,hn2,by go_num,hx0,?_,hB4⟩
       rw[bY (ac2 (by rw[HN.out,HM.out];rfl))] at hx1
       exact hx1
      case measure=>simp[intOf];omega
    ·obtain rfl:n=256:=by omega
     go_wp2
     go_roundw
     case rel =>
      refine⟨k+1,hlt,by go_num,hc0,?_,hB2⟩
      rw[bY (g:=uz (L.take (k+1))) (fun i hi=>if_pos hi)] at hc1
      exact hc1
     case measure=>simp[intOf];omega
  ·obtain rfl:k=L.length:=by omega
   rw[List.take_length] at hb1
   go_wp2_with (first | (refine wpList_load_row rfl 22 (.tmp 4) rfl _ rfl _ _ _ _ hb1 Tryz.underlying22 rfl (aK _) ?_) | (refine wpList_store_row rfl 22 (.tmp 2) (.tmp 28) rfl w.heap.size _ rfl rfl _ _ hb0 (aK _) (iF _ _) (eu _) ?_))
   exact dN Tryz.results128 rfl rfl (hb0.setRow _) Tryz.underlying22 rfl (aK _) rfl ⟨rfl,below_setRow hB (Nat.le_refl _) _⟩
theorem ac3(a:Option Addr)(cap:Nat)(l:List aF)(w:World)(h:au w (.slice a l.length cap) 4 encS l) :
  Calls Tryz.prog 120 #[.slice a l.length cap] w (bF w (.tuple #[.agg (aG (aT (RL l))),.int .i64 (iq (RL l):Nat)])):=by
 have hz:=gZ
 have E:=Nk l
 obtain⟨L,hP,e1,e2⟩:∃ L:List aF,(∀ wx,Below w.heap.size w wx→Calls Tryz.prog 164 #[.slice a l.length cap] wx (fV wx 113 4 encS L))∧aG (uz L)=aG (aT (RL l))∧L.length=iq (RL l):=by
  refine⟨_,fun wx hB=>ZO a cap l wx (h.kept hB),bY fun c hc=>?_,by rw[List.length_map,jK]⟩
  have:=I5 E hc _ (Nat.le_refl _)
  rw[List.take_length] at this
  rw[this,if_pos];have:=Cm E.refl hc;rwa[jK] at this
 have H1:=ah e1
 have H2:=ah e2
 have HP:=ah hP
 clear e1 e2 hP
 go_enter Tryz.func120,Tryz.ntmps120
 go_wp2_with (first | (refine wpList_store_row rfl 22 (.tmp 2) (.tmp 7) rfl w.heap.size _ rfl rfl _ _ hx0 (aK _) (iF _ _) (eu _) ?_) | (go_at_call 164;go_must (refine(HP.out _ ((Below.refl _ w).alloc (Nat.le_refl _) _)).mono ?_;rintro e w1 ⟨a1,cap1,rfl,hown,hB⟩)) | (go_at_call 128;go_must (refine(Hy a1 cap1 _ _ (hown.slice nC) (by rw[H2.out];exact CB _)).mono ?_;rintro e w2 ⟨rfl,hB2⟩;rw[H1.out,H2.out];have hx0:=((Box.new' (w:=w) rfl (aG fun _=>0) 22).kept hB).kept hB2)))
 have hB3:=(((Below.refl w.heap.size w).alloc (Nat.le_refl _) (.cells (aG fun _=>0) 22)).trans (hB.mono (by simp))).trans (hB2.mono (by have:=hB.size;simp at this;omega))
 exact dN Tryz.results120 rfl rfl (hx0.setRow _) Tryz.underlying22 rfl (aK _) rfl ⟨rfl,below_setRow hB3 (Nat.le_refl _) _⟩
end
section
open Go.RowKit
def ng(g:Nat→Bool):Array Value:=((List.range 256).map fun i=>Value.bool (g i)).toArray
theorem qK(g:Nat→Bool):(ng g).size=256:=by simp[ng]
theorem XU(f g:Nat→Bool):(ng f).size=(ng g).size:=by rw[qK,qK]
theorem Jg(g:Nat→Bool)(i:Nat)(h:i<256):(ng g)[i]?=some (.bool (g i)):=by simp[ng,h]
theorem DV{f g:Nat→Bool}(h:∀ i,i<256→f i=g i):ng f=ng g:=by
 have e:((List.range 256).map fun i=>Value.bool (f i))=((List.range 256).map fun i=>Value.bool (g i)):=List.map_congr_left fun i hi=>by rw[h i (by simpa using hi)]
 unfold ng;rw[e]
theorem ac4(g:Nat→Bool)(k:Nat)(v:Bool):(ng g).setIfInBounds k (.bool v)=ng (fun i=>if i=k then v else g i):=by
 apply Array.ext_getElem?
 intro i
 rw[Array.getElem?_setIfInBounds]
 by_cases hi:i<256
 ·rw[Jg _ i hi,Jg _ i hi,qK]
  by_cases hk:k=i
  ·subst hk;simp[hi]
  ·have:¬ i=k:=fun e=>hk e.symm
   simp[hk,this]
 ·have h1:(ng fun i=>if i=k then v else g i)[i]?=none:=by rw[Array.getElem?_eq_none];rw[qK];omega
  have h2:(ng g)[i]?=none:=by rw[Array.getElem?_eq_none];rw[qK];omega
  rw[h1,h2,qK]
  by_cases hk:k=i
  ·simp[hk,hi]
  ·simp[hk]
theorem ac5(g:Nat→Bool):(ng g).all (·.oneCell')=true:=by
 rw[Array.all_eq_true_iff_forall_mem]
 intro v hv
 simp only[ng,List.mem_toArray,List.mem_map] at hv
 obtain⟨x,_,rfl⟩:=hv
 rfl
theorem DW(f:Nat→Nat)(a b:Nat):aH (aY f) a b=true↔f a=f b:=by
 have:(aY f a=aY f b)↔f a=f b:=by unfold aY;omega
 rw[←this];simp[aH]
theorem ac6{f:Nat→Nat}(n m:Nat):(aC (aH (aY f)) n).any (aH (aY f) m)=(List.range n).any fun d=>f d==f m:=by
 have E:=gY (aY f)
 have hK:∀ a b,aH (aY f) a b=true↔f a=f b:=fun a b=>DW f a b
 rw[Bool.eq_iff_iff,List.any_eq_true,List.any_eq_true]
 constructor
 ·rintro⟨c,hc,h⟩
  exact⟨c,by simpa using jQ _ n c hc,by rw[beq_iff_eq];exact((hK _ _).1 h).symm⟩
 ·rintro⟨d,hd,h⟩
  obtain⟨c,hc,h2⟩:=List.any_eq_true.1 (o8 E.refl (show d<n by simpa using hd))
  exact⟨c,hc,E.trans ((hK _ _).2 (beq_iff_eq.1 h).symm) h2⟩
theorem ac7{f:Nat→Nat}{n:Nat}(h:((List.range n).any fun d=>f d==f n)=false):(oO fun e=>decide (n≤e)&&(decide (e<256)&&(f e==f n)))=cls (aH (aY f)) 256 n:=by
 refine mM fun d hd=>?_
 rw[uI,jo]
 have hK:aH (aY f) n d=(f d==f n):=by rw[Bool.eq_iff_iff,DW,beq_iff_eq];exact⟨fun h=>h.symm,fun h=>h.symm⟩
 rw[hK]
 by_cases hnd:n≤d
 ·simp[hd,hnd]
 ·have:=List.any_eq_false.1 h d (by simp;omega)
  have h2:(f d==f n)=false:=by simpa using this
  rw[h2];simp
theorem ZT(f:Nat→Nat)(n v:Nat):(if v=f n then true else (List.range n).any fun d=>f d==v)=(List.range (n+1)).any fun d=>f d==v:=by
 rw[List.range_succ,List.any_append]
 by_cases h:v=f n
 ·subst h;simp
 ·have h3:(f n==v)=false:=by rw[beq_eq_false_iff_ne];exact fun e=>h e.symm
  rw[if_neg h,List.any_cons,List.any_nil,h3];simp
attribute [irreducible] ng
theorem Ox:(Tryz.prog.info? 258).map (fun i=>(i.zero,i.size))=some (some (.agg (ng fun _=>false)),256):=by kernel_rfl
theorem ZU(f:Nat→Bool):(Tryz.prog.info? 258).map (·.size)=some (ng f).size:=by rw[qK];exact(zero_of_info Ox).2
def ZV(f:Nat→Nat)(w wr:World)(v i:Value):Prop :=
 ∃ (n:Nat) (a':Option Addr) (cap':Nat),n≤256∧i=.int .i64 n∧v=.slice a' (aC (aH (aY f)) n).length cap'∧Box wr w.heap.size (aG f) 22∧Box wr (w.heap.size+1+1) (ng fun v=>(List.range n).any fun d=>f d==v) 258 ∧
  Own wr (w.heap.size+1) 113 4 encS (.slice a' (aC (aH (aY f)) n).length cap') ((aC (aH (aY f)) n).map (cls (aH (aY f)) 256))∧Below w.heap.size w wr
def ZW(f:Nat→Nat)(n q:Nat)(W0 w2:World)(d:Value):Prop :=
 ∃ k:Nat,n≤k∧k≤256∧d=.int .i64 k∧Box w2 q (dZ (oO fun e=>decide (n≤e)&&(decide (e<k)&&(f e==f n)))) 113∧Below q W0 w2∧q<w2.heap.size
theorem zi(f:Nat→Nat)(hf:∀ b,f b<256)(w:World) :
  Calls Tryz.prog 121 #[.agg (aG f)] w (fV w 113 4 encS ((aC (aH (aY f)) 256).map (cls (aH (aY f)) 256))):=by
 have hz:=gZ
 have hzb:∀ w,(zeroValue 258).run Tryz.prog w=.ok (.agg (ng fun _=>false)) w:=(zero_of_info Ox).1
 have hbd:(Program.built Tryz.prog 258 [])=some (ng fun _=>false):=by kernel_rfl
 go_enter Tryz.func121,Tryz.ntmps121
 go_wp2_with (refine dW rfl 258 (.tmp 4) (.tmp 9) rfl _ _ rfl rfl (by simp) (ZU _) (XU _ _) (ac5 _) ?_)
 go_loopw [3,5] (fun v i wr=>ZV f w wr v i) (fun _ i _=>256 - (intOf i).toNat)
 case atStart =>
  refine⟨0,some ⟨w.heap.size+1,0,none⟩,0,Nat.zero_le _,rfl,by rw[AP];rfl,((Box.new' rfl _ _).alloc _).alloc _,?_,?_,by go_grown⟩
  ·rw[DV (g:=fun _=>false) (fun i _=>by simp)];exact Box.new' (by simp) _ _
  ·rw[AP]
   have:=(Own.empty (w.alloc (.cells (aG f) 22)) (w.heap.size+1) 113 4 encS (by simp)).alloc (.cells (ng fun _=>false) 258)
   rw[World.size_alloc] at this;exact this
 case round =>
  obtain⟨n,a',cap',hn,rfl,rfl,hb0,hb1,hown,hB⟩:=hrel
  by_cases hlt:n<256
  ·have c0:=(hb0.cell n).trans (dG _ n hlt)
   have hfn:=hf n
   have c1:=(hb1.cell (f n)).trans (Jg _ (f n) hfn)
   have hlen:=gU (aH (aY f)) n
   have hany:=ac6 (f:=f) n n
   cases hd:((List.range n).any fun d=>f d==f n) with
   | true =>
    rw[hd] at c1 hany
    have e1:aC (aH (aY f)) (n+1)=aC (aH (aY f)) n:=by rw[iY,if_pos hany]
    have HE:=ah e1
    have HD:=ah hd
    clear e1 hany hd
    go_wp2
    go_roundw
    case rel =>
     refine⟨n+1,a',cap',hlt,by go_num,by rw[HE.out],hb0,?_,by rw[HE.out];exact hown,hB⟩
     rw[DV (g:=fun v=>(List.range n).any fun d=>f d==v) (fun v hv=>?_)]
     ·exact hb1
     ·rw[List.range_succ,List.any_append]
      by_cases hv2:f n=v
      ·subst hv2;simp only[HD.out];rfl
      ·simp[hv2]
    case measure=>simp[intOf];omega
   | false =>
    rw[hd] at c1 hany
    have e1:aC (aH (aY f)) (n+1)=aC (aH (aY f)) n++[n]:=by rw[iY,hany];rfl
    have e2:=ac7 hd
    have HE:=ah e1
    have HC:=ah e2
    have f1:=hb1.free (f n)
    have hdd:decide ((n:Int)<256)=true:=by simp;omega
    clear e1 e2 hany hd
    go_wp2
    have hsz:(wr.setCell ⟨w.heap.size+1+1,f n,none⟩ (.bool true)).heap.size=wr.heap.size:=World.size_setCell _ _ _
    have XO:=hb0.other ⟨w.heap.size+1+1,f n,none⟩ (.bool true) (by simp;omega)
    have hb1':=hb1.set (f n) (.bool true)
    rw[ac4,DV (g:=fun v=>(List.range (n+1)).any fun d=>f d==v) (fun v _=>ZT f n v)] at hb1'
    have hown':=hown.lD hb1 (by decide) (f n) (.bool true)
    have hB':=hB.setCell (p:=⟨w.heap.size+1+1,f n,none⟩) (by simp;omega) (.bool true)
    have hq0:=hb1.lt
    generalize wr.setCell ⟨w.heap.size+1+1,f n,none⟩ (.bool true)=W0 at *
    have Ku:=ah hsz
    obtain⟨q,hq⟩:∃ q,wr.heap.size=q:=⟨_,rfl⟩
    rw[hq] at hsz hq0 ⊢
    have hqw:w.heap.size+1+1<q:=by omega
    clear hb0 hb1 hown hB c0 c1 f1 hq Ku
    go_loopw [7] (fun d w2=>ZW f n q W0 w2 d) (fun d _=>256 - (intOf d).toNat)
    case atStart =>
     refine⟨n,Nat.le_refl _,hn,rfl,?_,(Below.refl _ _).alloc (by omega) _,by simp;omega⟩
     rw[show(oO fun e=>decide (n≤e)&&(decide (e<n)&&(f e==f n)))=0 from(Zv 0 _ fun b _=>by rw[Dw];by_cases h:n≤b <;> simp[h];omega).symm,jS]
     exact Box.new' hsz.symm _ _
    case round =>
     obtain⟨k,hnk,hk,rfl,hs,hb,hq2⟩:=hrel
     have hx0:=XO.below hb (by omega)
     by_cases hk2:k<256
     ·have d0:=(hx0.cell k).trans (dG _ k hk2)
      have d1:=(hx0.cell n).trans (dG _ n hlt)
      obtain⟨⟨r0,r1,r2,r3⟩,_⟩:=hs.uy
      by_cases hkn:f k=f n
      ·have hbe:((f k:Int)==(f n:Int))=true:=by rw[beq_iff_eq,hkn]
       have es:(oO fun e=>decide (n≤e)&&(decide (e<k+1)&&(f e==f n)))=lI (oO fun e=>decide (n≤e)&&(decide (e<k)&&(f e==f n))) k:=by
        rw[Og _ _ hk2]
        refine AO fun b _=>?_
        by_cases h1:k=b
        ·subst h1;simp[hnk,hkn]
        ·have:decide (b<k+1)=decide (b<k):=by rw[decide_eq_decide];omega
         simp[h1,this]
       have HES:=ah es
       have HB:=ah hbe
       clear es hkn
       go_wp2_with fail
       go_region
       go_wp2_with (go_at_call 165;go_must (refine(Jc _ _ _ hk2).mono ?_;rintro e w5 ⟨rfl,iH⟩;have hs5:=hs.drew.kept iH;obtain⟨⟨t0,t1,t2,t3⟩,⟨g0,g1,g2,g3⟩⟩:=hs5.uy;have jZ:=hb.drew.trans (iH.mono (Nat.le_of_lt hq2));have hq5:q<w5.heap.size:=Nat.lt_of_lt_of_le hq2 iH.size))
       go_roundw
       case rel=>exact⟨k+1,by omega,hk2,by go_num,by rw[HES.out];exact hs5.sO rfl _ _ _ _,by go_grown,by simp;exact hq5⟩
       case measure=>simp[intOf];omega
      ·have hbe:((f k:Int)==(f n:Int))=false:=by rw[beq_eq_false_iff_ne];omega
       have es:(oO fun e=>decide (n≤e)&&(decide (e<k+1)&&(f e==f n)))=(oO fun e=>decide (n≤e)&&(decide (e<k)&&(f e==f n))):=by
        refine AO fun b _=>?_
        by_cases h1:b=k
        ·subst h1;simp[hkn]
        ·have:decide (b<k+1)=decide (b<k):=by rw[decide_eq_decide];omega
         simp[this]
       have HES:=ah es
       have HB:=ah hbe
       clear es hkn
       go_wp2_with fail
       go_region
       go_wp2
       go_roundw
       case rel=>exact⟨k+1,by omega,hk2,by go_num,by rw[HES.out];exact hs.drew,hb.drew,hq2⟩
       case measure=>simp[intOf];omega
     ·obtain rfl:k=256:=by omega
      rw[show(oO fun e=>decide (n≤e)&&(decide (e<256)&&(f e==f n)))=cls (aH (aY f)) 256 n from HC.out] at hs
      have hx1:=hb1'.below hb hqw
      have hown2:=hown'.kept (hsz▸hb)
      obtain⟨⟨r0,r1,r2,r3⟩,_⟩:=hs.uy
      have hB2:=hB'.trans (hb.mono (by omega))
      go_wp2_with (at_builtin;go_must (refine dK rfl _ _ 190 rfl zJ nC rfl (hown2.alloc _) ⟨wr.heap.size,0,none⟩ 1 (cls (aH (aY f)) 256 n) rfl ?_ ?_ ?_ ?_ ?_))
      ·exact bW wr _ _
      ·simp[maxLen];omega
      ·simp;omega
      ·have:=hB2.size;simp;omega
      intro a2 cap2 w6 hown6 QY
      have bI:=below_grown (hB2.alloc hB2.size _) (hown2.alloc _) QY (by omega) (by have:=hB2.size;simp;omega)
      have hy0:=(hx1.alloc (.cells (dZ (cls (aH (aY f)) 256 n)) 113)).cu (hown2.alloc _) QY (by decide)
      have hy1:=((XO.below hb (by omega)).alloc (.cells (dZ (cls (aH (aY f)) 256 n)) 113)).cu (hown2.alloc _) QY (by decide)
      go_wp2
      go_roundw
      case rel =>
       refine⟨n+1,a2,cap2,hlt,by go_num,?_,hy1,hy0,?_,bI⟩
       ·rw[HE.out];simp
       ·rw[HE.out,List.map_append]
        rw[List.length_append];simpa using hown6
      case measure=>simp[intOf];omega
  ·obtain rfl:n=256:=by omega
   go_wp2
   go_ret
   refine⟨a',cap',?_,?_,hB⟩
   ·rw[List.length_map];rfl
   ·rw[List.length_map];exact hown.mono (by omega)
end
section
open Go.RowKit
def l8(f:Nat→Nat):List Value:=(aG f).toList
theorem zK(f:Nat→Nat):(l8 f).toArray=aG f:=by unfold l8;exact Array.toArray_toList
theorem QZ(f:Nat→Nat):(l8 f).length=256:=by unfold l8;rw[Array.length_toList,aU]
theorem Box.range{w:World}{b E:Nat}{f:Nat→Nat}(h:Box w b (aG f) E):w.rangeAt b 0 (l8 f):=fun j v hv=>by
 rw[Nat.zero_add,h.cell];unfold l8 at hv;simpa using hv
theorem Box.there{w:World}{b E:Nat}{f g:Nat→Nat}(h:Box w b (aG f) E):w.there b 0 (l8 g).length:=fun j hj=>by
 rw[QZ] at hj
 rw[Nat.zero_add,h.cell,dG _ j hj]
 exact⟨rfl,h.free j⟩
theorem ZX{R:Nat→Nat→Bool}(E:su R){b c:Nat}(hb:b<256)(hc:c<256):RL ((aC R 256).map (cls R 256)) b c=R b c:=by
 rw[Bool.eq_iff_iff]
 simp only[RL,List.all_map,List.all_eq_true,Function.comp,beq_iff_eq,jo,hb,hc,decide_true,Bool.true_and]
 constructor
 ·intro h
  obtain⟨r,hr,hbr⟩:=List.any_eq_true.1 (o8 E.refl hb)
  have:=h r hr
  rw[E.symm hbr] at this
  exact E.trans hbr this.symm
 ·intro h r _
  rw[Bool.eq_iff_iff]
  exact⟨fun k=>E.trans k h,fun k=>E.trans k (E.symm h)⟩
theorem ZY(l m:List aF)(b c:Nat):RL (l++m) b c=(RL l b c&&RL m b c):=by simp[RL]
theorem qL(f g:Nat→Nat)(b c:Nat):aH (iV f g) b c=(aH (aY f) b c&&aH (aY g) b c):=by
 rw[Bool.eq_iff_iff,Bool.and_eq_true,DW,DW]
 simp only[aH,decide_eq_true_eq]
 unfold iV
 rw[Prod.mk.injEq]
 omega
theorem Q5(R:Nat→Nat→Bool)(E:su R):0<(aC R 256).length:=by
 have:=o8 E.refl (show 0<256 by decide)
 cases h:aC R 256 with
 | nil=>rw[h] at this;simp at this
 | cons a l=>simp
theorem Box.setCells{w:World}{b E:Nat}:∀ (vs:List Value) (o:Nat) (c:Array Value),Box w b c E→∃ c',Box (w.setCells b o vs) b c' E∧c'.size=c.size∧(∀ i,i<o→c'[i]?=c[i]?)∧(∀ i,o+i<c.size→i<vs.length→c'[o+i]?=vs[i]?):=by
 intro vs
 induction vs generalizing w with
 | nil=>intro o c h;exact⟨c,h,rfl,fun _ _=>rfl,fun i _ hi=>by simp at hi⟩
 | cons v vs ih =>
  intro o c h
  obtain⟨c',h1,h2,h3,h4⟩:=ih (o+1) _ (h.set o v)
  refine⟨c',h1,by rw[h2];simp,fun i hi=>?_,fun i hi hl=>?_⟩
  ·rw[h3 i (by omega),Array.getElem?_setIfInBounds];simp;omega
  ·cases i with
   | zero =>
    rw[h3 (o+0) (by omega),Array.getElem?_setIfInBounds];simp at hi ⊢;omega
   | succ i =>
    have:=h4 i (by simp;omega) (by simpa using hl)
    rw[show o+(i+1)=o+1+i by omega,this];rfl
attribute [irreducible] l8
def vF(f g:Nat→Nat)(w w':World):Prop :=
 Box w' w.heap.size (aG f) 22∧Box w' (w.heap.size+1) (aG g) 22∧(∃ h,Box w' (w.heap.size+1+1) (aG h) 22)∧Below w.heap.size w w'
theorem vF.kept{f g:Nat→Nat}{w wi w1:World}(h:vF f g w wi)(hb:Below wi.heap.size wi w1):vF f g w w1:=by
 obtain⟨k0,k1,⟨h,k2⟩,k3⟩:=h
 exact⟨k0.kept hb,k1.kept hb,⟨h,k2.kept hb⟩,k3.trans (hb.mono k3.size)⟩
theorem vF.grown{f g:Nat→Nat}{w wi w1:World}{base:Nat}{v:Value}{xs:List aF}(h:vF f g w wi)(ho:Own wi base 113 4 encS v xs)(hlt:w.heap.size+1+1<base)(hle:base≤wi.heap.size)(hg:wi.grownBy w1 v.ownBlock):vF f g w w1:=by
 obtain⟨k0,k1,⟨h,k2⟩,k3⟩:=h
 have hb:Below base wi w1:=below_grown (Below.refl _ _) ho hg (Nat.le_refl _) hle
 exact⟨k0.below hb (by omega),k1.below hb (by omega),⟨h,k2.below hb hlt⟩,k3.trans (hb.mono (by omega))⟩
theorem vF.store{f g h:Nat→Nat}{w wi:World}(k:vF f g w wi):vF f g w (wi.setRow (w.heap.size+1+1) (aG h)):=by
 obtain⟨k0,k1,⟨h',k2⟩,k3⟩:=k
 exact⟨k0.setRow_other _ (by omega),k1.setRow_other _ (by omega),⟨h,k2.setRow _⟩,below_setRow k3 (by omega) _⟩
theorem ac8(f g:Nat→Nat)(hf:∀ b,f b<256)(hg:∀ b,g b<256)(w:World) :
  Calls Tryz.prog 75 #[.agg (aG f),.agg (aG g)] w (bF w (.tuple #[.agg (aG (aT (aH (iV f g)))),.int .i64 (iq (aH (iV f g)):Nat)])):=by
 have hz:=gZ
 obtain⟨L,hL,pL⟩:∃ L:List aF,(aC (aH (aY f)) 256).map (cls (aH (aY f)) 256)=L∧0<L.length∧L.length≤256:=⟨_,rfl,by rw[List.length_map];exact Q5 _ (gY _),by rw[List.length_map];exact gU _ _⟩
 obtain⟨M,hM,pM⟩:∃ M:List aF,(aC (aH (aY g)) 256).map (cls (aH (aY g)) 256)=M∧0<M.length∧M.length≤256:=⟨_,rfl,by rw[List.length_map];exact Q5 _ (gY _),by rw[List.length_map];exact gU _ _⟩
 have hR:∀ b c,b<256→c<256→RL (L++M) b c=aH (iV f g) b c:=fun b c hb hc=>by
  rw[ZY,←hL,←hM,ZX (gY _) hb hc,ZX (gY _) hb hc,qL]
 have hSf:∀ wx,Calls Tryz.prog 121 #[.agg (l8 f).toArray] wx (fV wx 113 4 encS L):=fun wx=>by
  rw[zK,←hL];exact zi f hf wx
 have hSg:∀ wx,Calls Tryz.prog 121 #[.agg (l8 g).toArray] wx (fV wx 113 4 encS M):=fun wx=>by
  rw[zK,←hM];exact zi g hg wx
 have hO:∀ (a:Option Addr) (cap:Nat) wx,au wx (.slice a (L.length+M.length) cap) 4 encS (L++M)→Calls Tryz.prog 120 #[.slice a (L.length+M.length) cap] wx (bF wx (.tuple #[.agg (l8 (aT (aH (iV f g)))).toArray,.int .i64 (iq (aH (iV f g)):Nat)])):=fun a cap wx h=>by
  have e:(L++M).length=L.length+M.length:=by simp
  have:=ac3 a cap (L++M) wx (by rw[e];exact h)
  rw[e,DK hR,bY (fun i hi=>DJ hR hi)] at this
  rw[zK];exact this
 have HF:=ah hSf
 have HG:=ah hSg
 have HO:=ah hO
 clear hSf hSg hO hL hM hR
 obtain⟨pL1,pL2⟩:=pL
 obtain⟨pM1,pM2⟩:=pM
 go_enter Tryz.func75,Tryz.ntmps75
 go_wp2
 have hb0:=((Box.new w (aG f) 22).alloc (.cells (aG g) 22)).alloc (.cells (aG fun _=>0) 22)
 have hb1:=(Box.new' (w:=w.alloc (.cells (aG f) 22)) (World.size_alloc _ _).symm (aG g) 22).alloc (.cells (aG fun _=>0) 22)
 have hb2:=Box.new' (w:=(w.alloc (.cells (aG f) 22)).alloc (.cells (aG g) 22)) (b:=w.heap.size+1+1) (by rw[World.size_alloc,World.size_alloc]) (aG fun _=>0) 22
 have hB:Below w.heap.size w (((w.alloc (.cells (aG f) 22)).alloc (.cells (aG g) 22)).alloc (.cells (aG fun _=>0) 22)):=by go_grown
 generalize ((w.alloc (.cells (aG f) 22)).alloc (.cells (aG g) 22)).alloc (.cells (aG fun _=>0) 22)=W at *
 have hs8:(Tryz.prog.info? 22).map (·.size)=some 256:=(zero_of_info Je).2
 have ZP:=Tryz.underlying22
 have hq0:=hb2.lt
 have hS0:vF f g w W.drew:=⟨hb0.drew,hb1.drew,⟨_,hb2.drew⟩,hB.drew⟩
 clear hb0 hb1 hb2
 refine wp_region_held_drew (S:=vF f g w) (by kernel_rfl) hS0 (fun hH=>?_)
 refine wpAnyH_take (i:=0) (v:=.agg (l8 f).toArray) rfl (by kernel_rfl) (by kernel_rfl) (by kernel_rfl) (fun _ _ _ h=>h) (yieldsIf_load_mid (by rfl) _ _ rfl _ _ rfl _ _ (fun w' hS'=>hS'.1.range) ZP rfl (by rw[QZ];exact hs8)) hH ?_
 simp only[List.getElem_toArray,List.getElem_cons_zero,Act.put,List.setIfInBounds_toArray,List.set_cons_zero,List.set_cons_succ]
 refine wpAnyH_take (i:=2) (v:=.agg (l8 g).toArray) rfl (by kernel_rfl) (by kernel_rfl) (by kernel_rfl) (fun _ _ _ h=>h) (yieldsIf_load_mid (by rfl) _ _ rfl _ _ rfl _ _ (fun w' hS'=>hS'.2.1.range) ZP rfl (by rw[QZ];exact hs8)) hH ?_
 simp only[List.getElem_toArray,List.getElem_cons_zero,List.getElem_cons_succ,Act.put,List.setIfInBounds_toArray,List.set_cons_zero,List.set_cons_succ]
 refine wpAnyH_ready (rs:=[1]) (by kernel_rfl) (by simp) (AllReadyH.cons rfl (fun K hK=>?_) AllReadyH.nil)
 go_simp
 refine(HF.out _).mono ?_
 rintro e w1 ⟨a1,cap1,rfl,ho1,hb⟩
 refine hK.out _ _ (hH.kept hb) (fun hH1=>?_)
 clear hK K
 refine wpAnyH_ready (rs:=[3]) (by kernel_rfl) (by simp) (AllReadyH.cons rfl (fun K hK=>?_) AllReadyH.nil)
 go_simp
 refine(HG.out _).mono ?_
 rintro e w2 ⟨a2,cap2,rfl,ho2,hb2⟩
 obtain⟨g2,rfl,asv,asw⟩:=ho2.addr pM1
 have ahE:=ho1.kept hb2
 refine hK.out _ _ (hH1.kept hb2) (fun hH2=>?_)
 clear hK K
 have hw1:w.heap.size+1+1<w1.heap.size:=by obtain⟨_,_,⟨_,k⟩,_⟩:=hH1;exact k.lt
 have hWd:W.drew.heap.size≤w1.heap.size:=hb.size
 have hsz2:w1.heap.size≤w2.heap.size:=hb2.size
 refine wpAnyH_ready (rs:=[4]) (by kernel_rfl) (by simp) (AllReadyH.cons rfl (fun K hK=>?_) AllReadyH.nil)
 refine QB rfl _ _ 190 rfl zJ nC rfl ahE ⟨g2,0,none⟩ _ M rfl ((ho2.uj nC).cells rfl) (by simp[maxLen];omega) (by omega) (by omega) ?_
 intro a3 cap3 w3 ho3 hgr
 refine hK.out _ _ (hH2.grown ahE hq0 (by omega) hgr) (fun hH3=>?_)
 clear hK K
 refine wpAnyH_ready (rs:=[5]) (by kernel_rfl) (by simp) (AllReadyH.cons rfl (fun K hK=>?_) AllReadyH.nil)
 go_simp
 refine(HO.out _ _ _ (ho3.slice nC)).mono ?_
 rintro e w4 ⟨rfl,hb4⟩
 refine hK.out _ _ (hH3.kept hb4) (fun hH4=>?_)
 clear hK K
 refine wpAnyH_take (i:=6) rfl (by kernel_rfl) (by kernel_rfl) (by kernel_rfl) (fun _ _ _ h=>h) (.inl ⟨by rfl,fun w' _=>by rfl⟩) hH4 ?_
 simp only[List.getElem_toArray,List.getElem_cons_zero,List.getElem_cons_succ,Act.put,List.setIfInBounds_toArray,List.set_cons_zero,List.set_cons_succ]
 refine wpAnyH_take (i:=7) rfl (by kernel_rfl) (by kernel_rfl) (by kernel_rfl) (fun _ _ _ h=>h) (.inl ⟨by rfl,fun w' _=>by rfl⟩) hH4 ?_
 simp only[List.getElem_toArray,List.getElem_cons_zero,List.getElem_cons_succ,Act.put,List.setIfInBounds_toArray,List.set_cons_zero,List.set_cons_succ]
 obtain⟨h4,hx4⟩:=hH4.2.2.1
 refine wpAnyH_ready (rs:=[8]) (by kernel_rfl) (by simp) (AllReadyH.cons rfl (fun K hK=>?_) AllReadyH.nil)
 rw[if_pos (by rfl)]
 refine wp_store_row 22 _ _ rfl (w.heap.size+1+1) (l8 (aT (aH (iV f g)))).toArray rfl rfl _ _ hx4 (by rw[zK];exact aK _) (by rw[zK];exact iF _ _) (by rw[zK];exact eu _) ?_
 rw[zK (aT (aH (iV f g)))]
 refine hK.out _ _ hH4.store (fun hH5=>?_)
 clear hK K
 refine wpAnyH_take (i:=9) rfl (by kernel_rfl) (by kernel_rfl) (by kernel_rfl) (fun _ _ _ h=>h) (.inl ⟨by rfl,fun w' _=>by rfl⟩) hH5 ?_
 simp only[List.getElem_toArray,List.getElem_cons_zero,List.getElem_cons_succ,Act.put,List.setIfInBounds_toArray,List.set_cons_zero,List.set_cons_succ]
 refine wpAnyH_done (by kernel_rfl) ?_ _
 go_wp2
 exact dN Tryz.results75 rfl rfl (hx4.setRow _) Tryz.underlying22 rfl (aK _) rfl ⟨rfl,hH5.2.2.2⟩
end
section
open Go.RowKit
theorem Kv(f:Nat→Nat)(hf:∀ b,f b<256)(w:World) :
  Calls Tryz.prog 93 #[.agg (aG f)] w (bF w (.tuple #[.agg (aG (aT (aH (aY f)))),.int .i64 (iq (aH (aY f)):Nat)])):=by
 have hz:=gZ
 have E:=gY (aY f)
 obtain⟨L,hP,e1,e2⟩:∃ L:List aF,(∀ wx,Calls Tryz.prog 121 #[.agg (aG f)] wx (fV wx 113 4 encS L))∧aG (uz L)=aG (aT (aH (aY f)))∧L.length=iq (aH (aY f)):=by
  refine⟨_,fun wx=>zi f hf wx,bY fun c hc=>?_,by rw[List.length_map,jK]⟩
  have:=I5 E hc _ (Nat.le_refl _)
  rw[List.take_length] at this
  rw[this,if_pos];have:=Cm E.refl hc;rwa[jK] at this
 have H1:=ah e1
 have H2:=ah e2
 have HP:=ah hP
 have hle:=CB (aH (aY f))
 clear e1 e2 hP
 go_enter Tryz.func93,Tryz.ntmps93
 go_wp2_with (first | (refine wpList_load_row rfl 22 (.tmp 1) rfl _ rfl _ _ _ _ ((Box.new _ _ _).alloc _) Tryz.underlying22 rfl (aK _) ?_) | (refine wpList_store_row rfl 22 (.tmp 2) (.tmp 7) rfl (w.heap.size+1) _ rfl rfl _ _ hx0 (aK _) (iF _ _) (eu _) ?_) | (go_at_call 121;go_must (refine(HP.out _).mono ?_;rintro e w1 ⟨a1,cap1,rfl,hown,hB⟩)) | (go_at_call 128;go_must (refine(Hy a1 cap1 _ _ (hown.slice nC) (by rw[H2.out];exact hle)).mono ?_;rintro e w2 ⟨rfl,hB2⟩;rw[H1.out,H2.out];have hx0:=((Box.new' (w:=w.alloc (.cells (aG f) 22)) (b:=w.heap.size+1) (by simp) (aG fun _=>0) 22).kept hB).kept hB2)))
 have hB3:=((((Below.refl w.heap.size w).alloc (Nat.le_refl _) (.cells (aG f) 22)).alloc (by simp) (.cells (aG fun _=>0) 22)).trans (hB.mono (by simp;omega))).trans (hB2.mono (by have:=hB.size;simp at this;omega))
 exact dN Tryz.results93 rfl rfl (hx0.setRow _) Tryz.underlying22 rfl (aK _) rfl ⟨rfl,below_setRow hB3 (by omega) _⟩
theorem U4(f:Nat→Nat)(hf:∀ b,f b<256)(n:Int)(w:World) :
  Calls Tryz.prog 59 #[.agg (aG f),.int .i64 n] w (bF w (.bool (jR (aT (aH (aY f))) f&&((iq (aH (aY f)):Nat)==n)))):=by
 have hz:=gZ
 have hq:=EW (P:=Tryz.prog) (t:=22) (e:=5) Tryz.underlying22 Tryz.underlying5 (by kernel_rfl) (aT (aH (aY f))) f
 have hsz:∀ w1:World,Below (w.alloc (.cells (aG f) 22)).heap.size (w.alloc (.cells (aG f) 22)) w1→Below w.heap.size w (w1.alloc (.cells (aG (aT (aH (aY f)))) 22)):=fun w1 hB=>(((Below.refl w.heap.size w).alloc (Nat.le_refl _) _).trans (hB.mono (by go_size))).alloc (by have:=hB.size;simp at this;omega) _
 have HS:=ah hsz
 have HF:=ah hf
 clear hsz hf
 cases hs:jR (aT (aH (aY f))) f with
 | true =>
  rw[hs] at hq
  clear hs
  go_enter Tryz.func59,Tryz.ntmps59
  go_wp2_with (first | (refine wpList_load_row rfl 22 (.tmp 2) rfl _ rfl _ _ _ _ (Box.new _ _ _) Tryz.underlying22 rfl (aK _) ?_) | (refine dW rfl 22 (.tmp 5) (.tmp 10) rfl _ _ rfl rfl rfl (aK _) (iF _ _) (eu _) ?_) | (go_at_call 93;go_must (refine(Kv f HF.out _).mono ?_;rintro e w1 ⟨rfl,hB⟩;have hx0:=(Box.new w (aG f) 22).kept hB)) | (refine wpList_load_row rfl 22 (.tmp 5) rfl _ rfl _ _ _ _ (Box.new _ _ _) Tryz.underlying22 rfl (aK _) ?_) | (refine wpList_load_row rfl 22 (.tmp 2) rfl _ rfl _ _ _ _ (hx0.alloc _) Tryz.underlying22 rfl (aK _) ?_))
  go_ret
  exact⟨rfl,HS.out _ hB⟩
 | false =>
  rw[hs] at hq
  clear hs
  go_enter Tryz.func59,Tryz.ntmps59
  go_wp2_with (first | (refine wpList_load_row rfl 22 (.tmp 2) rfl _ rfl _ _ _ _ (Box.new _ _ _) Tryz.underlying22 rfl (aK _) ?_) | (refine dW rfl 22 (.tmp 5) (.tmp 10) rfl _ _ rfl rfl rfl (aK _) (iF _ _) (eu _) ?_) | (go_at_call 93;go_must (refine(Kv f HF.out _).mono ?_;rintro e w1 ⟨rfl,hB⟩;have hx0:=(Box.new w (aG f) 22).kept hB)) | (refine wpList_load_row rfl 22 (.tmp 5) rfl _ rfl _ _ _ _ (Box.new _ _ _) Tryz.underlying22 rfl (aK _) ?_) | (refine wpList_load_row rfl 22 (.tmp 2) rfl _ rfl _ _ _ _ (hx0.alloc _) Tryz.underlying22 rfl (aK _) ?_))
  go_ret
  exact⟨rfl,HS.out _ hB⟩
end
end Go.Proofs.YtengfapcaaacaaaGreatDoor
