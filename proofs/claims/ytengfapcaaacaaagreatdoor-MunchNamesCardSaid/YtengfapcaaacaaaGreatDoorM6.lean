/- The texts of N6, in few letters (mini.py). -/
import Derived.Test.YtengfapcaaacaaaGreatDoorM5
import Derived.RangeFuncNested
import Derived.RangeFuncBound
import Derived.Shelf.RegionOpen
import Derived.OwnWalkIn
import Derived.LoopNIn
import Derived.LoopIn
set_option linter.unusedVariables false
set_option linter.unusedSimpArgs false
set_option maxRecDepth 20000
set_option maxHeartbeats 1600000
namespace Go.Proofs.YtengfapcaaacaaaGreatDoor
section
open Go.RowKit
def mJ(g:Nat→Bool):Array Value:=((List.range 256).map fun i=>Value.bool (g i)).toArray
theorem qR(g:Nat→Bool):(mJ g).size=256:=by simp[mJ]
theorem WV(f g:Nat→Bool):(mJ f).size=(mJ g).size:=by rw[qR,qR]
theorem Jm(g:Nat→Bool)(i:Nat)(h:i<256):(mJ g)[i]?=some (.bool (g i)):=by simp[mJ,h]
theorem D9{f g:Nat→Bool}(h:∀ i,i<256→f i=g i):mJ f=mJ g:=by
 have e:((List.range 256).map fun i=>Value.bool (f i))=((List.range 256).map fun i=>Value.bool (g i)):=List.map_congr_left fun i hi=>by rw[h i (by simpa using hi)]
 unfold mJ;rw[e]
theorem abX(g:Nat→Bool)(k:Nat)(v:Bool):(mJ g).setIfInBounds k (.bool v)=mJ (fun i=>if i=k then v else g i):=by
 apply Array.ext_getElem?
 intro i
 rw[Array.getElem?_setIfInBounds]
 by_cases hi:i<256
 ·rw[Jm _ i hi,Jm _ i hi,qR]
  by_cases hk:k=i
  ·subst hk;simp[hi]
  ·have:¬ i=k:=fun e=>hk e.symm
   simp[hk,this]
 ·have h1:(mJ fun i=>if i=k then v else g i)[i]?=none:=by rw[Array.getElem?_eq_none];rw[qR];omega
  have h2:(mJ g)[i]?=none:=by rw[Array.getElem?_eq_none];rw[qR];omega
  rw[h1,h2,qR]
  by_cases hk:k=i
  ·simp[hk,hi]
  ·simp[hk]
theorem abY(g:Nat→Bool):(mJ g).all (·.oneCell')=true:=by
 rw[Array.all_eq_true_iff_forall_mem]
 intro v hv
 simp only[mJ,List.mem_toArray,List.mem_map] at hv
 obtain⟨x,_,rfl⟩:=hv
 rfl
theorem QL(f:Nat→Nat)(a b:Nat):aW (bH f) a b=true↔f a=f b:=by
 have:(bH f a=bH f b)↔f a=f b:=by unfold bH;omega
 rw[←this];simp[aW]
theorem abZ{f:Nat→Nat}(n m:Nat):(aI (aW (bH f)) n).any (aW (bH f) m)=(List.range n).any fun d=>f d==f m:=by
 have E:=oL (bH f)
 have hK:∀ a b,aW (bH f) a b=true↔f a=f b:=fun a b=>QL f a b
 rw[Bool.eq_iff_iff,List.any_eq_true,List.any_eq_true]
 constructor
 ·rintro⟨c,hc,h⟩
  exact⟨c,by simpa using lN _ n c hc,by rw[beq_iff_eq];exact((hK _ _).1 h).symm⟩
 ·rintro⟨d,hd,h⟩
  obtain⟨c,hc,h2⟩:=List.any_eq_true.1 (wY E.refl (show d<n by simpa using hd))
  exact⟨c,hc,E.trans ((hK _ _).2 (beq_iff_eq.1 h).symm) h2⟩
theorem ab1{f:Nat→Nat}{n:Nat}(h:((List.range n).any fun d=>f d==f n)=false):(nX fun e=>decide (n≤e)&&(decide (e<256)&&(f e==f n)))=cls (aW (bH f)) 256 n:=by
 refine rU fun d hd=>?_
 rw[pO,rZ]
 have hK:aW (bH f) n d=(f d==f n):=by rw[Bool.eq_iff_iff,QL,beq_iff_eq];exact⟨fun h=>h.symm,fun h=>h.symm⟩
 rw[hK]
 by_cases hnd:n≤d
 ·simp[hd,hnd]
 ·have:=List.any_eq_false.1 h d (by simp;omega)
  have h2:(f d==f n)=false:=by simpa using this
  rw[h2];simp
theorem YX(f:Nat→Nat)(n v:Nat):(if v=f n then true else (List.range n).any fun d=>f d==v)=(List.range (n+1)).any fun d=>f d==v:=by
 rw[List.range_succ,List.any_append]
 by_cases h:v=f n
 ·subst h;simp
 ·have h3:(f n==v)=false:=by rw[beq_eq_false_iff_ne];exact fun e=>h e.symm
  rw[if_neg h,List.any_cons,List.any_nil,h3];simp
attribute [irreducible] mJ
theorem Ou:(Tryz.prog.info? 258).map (fun i=>(i.zero,i.size))=some (some (.agg (mJ fun _=>false)),256):=by kernel_rfl
theorem YZ(f:Nat→Bool):(Tryz.prog.info? 258).map (·.size)=some (mJ f).size:=by rw[qR];exact(zero_of_info Ou).2
def Y0(f:Nat→Nat)(w wr:World)(v i:Value):Prop :=
 ∃ (n:Nat) (a':Option Addr) (cap':Nat),n≤256∧i=.int .i64 n∧v=.slice a' (aI (aW (bH f)) n).length cap'∧Box wr w.heap.size (aS f) 22∧Box wr (w.heap.size+1+1) (mJ fun v=>(List.range n).any fun d=>f d==v) 258 ∧
  Own wr (w.heap.size+1) 113 4 encS (.slice a' (aI (aW (bH f)) n).length cap') ((aI (aW (bH f)) n).map (cls (aW (bH f)) 256))∧Below w.heap.size w wr
def Y1(f:Nat→Nat)(n q:Nat)(W0 w2:World)(d:Value):Prop :=
 ∃ k:Nat,n≤k∧k≤256∧d=.int .i64 k∧Box w2 q (bT (nX fun e=>decide (n≤e)&&(decide (e<k)&&(f e==f n)))) 113∧Below q W0 w2∧q<w2.heap.size
theorem WW(f:Nat→Nat)(hf:∀ b,f b<256)(w:World) :
  Calls Tryz.prog 121 #[.agg (aS f)] w (iU w 113 4 encS ((aI (aW (bH f)) 256).map (cls (aW (bH f)) 256))):=by
 have hz:=jX
 have hzb:∀ w,(zeroValue 258).run Tryz.prog w=.ok (.agg (mJ fun _=>false)) w:=(zero_of_info Ou).1
 have hbd:(Program.built Tryz.prog 258 [])=some (mJ fun _=>false):=by kernel_rfl
 go_enter Tryz.func121,Tryz.ntmps121
 go_wp2_with (refine eX rfl 258 (.tmp 4) (.tmp 9) rfl _ _ rfl rfl (by simp) (YZ _) (WV _ _) (abY _) ?_)
 go_loopw [3,5] (fun v i wr=>Y0 f w wr v i) (fun _ i _=>256 - (intOf i).toNat)
 case atStart =>
  refine⟨0,some ⟨w.heap.size+1,0,none⟩,0,Nat.zero_le _,rfl,by rw[Og];rfl,((Box.new' rfl _ _).alloc _).alloc _,?_,?_,by go_grown⟩
  ·rw[D9 (g:=fun _=>false) (fun i _=>by simp)];exact Box.new' (by simp) _ _
  ·rw[Og]
   have:=(Own.empty (w.alloc (.cells (aS f) 22)) (w.heap.size+1) 113 4 encS (by simp)).alloc (.cells (mJ fun _=>false) 258)
   rw[World.size_alloc] at this;exact this
 case round =>
  obtain⟨n,a',cap',hn,rfl,rfl,hb0,hb1,hown,hB⟩:=hrel
  by_cases hlt:n<256
  ·have c0:=(hb0.cell n).trans (dS _ n hlt)
   have hfn:=hf n
   have c1:=(hb1.cell (f n)).trans (Jm _ (f n) hfn)
   have hlen:=jT (aW (bH f)) n
   have hany:=abZ (f:=f) n n
   cases hd:((List.range n).any fun d=>f d==f n) with
   | true =>
    rw[hd] at c1 hany
    have e1:aI (aW (bH f)) (n+1)=aI (aW (bH f)) n:=by rw[jE,if_pos hany]
    have HE:=ah e1
    have HD:=ah hd
    clear e1 hany hd
    go_wp2
    go_roundw
    case rel =>
     refine⟨n+1,a',cap',hlt,by go_num,by rw[HE.out],hb0,?_,by rw[HE.out];exact hown,hB⟩
     rw[D9 (g:=fun v=>(List.range n).any fun d=>f d==v) (fun v hv=>?_)]
     ·exact hb1
     ·rw[List.range_succ,List.any_append]
      by_cases hv2:f n=v
      ·subst hv2;simp only[HD.out];rfl
      ·simp[hv2]
    case measure=>simp[intOf];omega
   | false =>
    rw[hd] at c1 hany
    have e1:aI (aW (bH f)) (n+1)=aI (aW (bH f)) n++[n]:=by rw[jE,hany];rfl
    have e2:=ab1 hd
    have HE:=ah e1
    have HC:=ah e2
    have f1:=hb1.free (f n)
    have hdd:decide ((n:Int)<256)=true:=by simp;omega
    clear e1 e2 hany hd
    go_wp2
    have hsz:(wr.setCell ⟨w.heap.size+1+1,f n,none⟩ (.bool true)).heap.size=wr.heap.size:=World.size_setCell _ _ _
    have WT:=hb0.other ⟨w.heap.size+1+1,f n,none⟩ (.bool true) (by simp;omega)
    have hb1':=hb1.set (f n) (.bool true)
    rw[abX,D9 (g:=fun v=>(List.range (n+1)).any fun d=>f d==v) (fun v _=>YX f n v)] at hb1'
    have hown':=hown.J8 hb1 (by decide) (f n) (.bool true)
    have hB':=hB.setCell (p:=⟨w.heap.size+1+1,f n,none⟩) (by simp;omega) (.bool true)
    have hq0:=hb1.lt
    generalize wr.setCell ⟨w.heap.size+1+1,f n,none⟩ (.bool true)=W0 at *
    have KE:=ah hsz
    obtain⟨q,hq⟩:∃ q,wr.heap.size=q:=⟨_,rfl⟩
    rw[hq] at hsz hq0 ⊢
    have hqw:w.heap.size+1+1<q:=by omega
    clear hb0 hb1 hown hB c0 c1 f1 hq KE
    go_loopw [7] (fun d w2=>Y1 f n q W0 w2 d) (fun d _=>256 - (intOf d).toNat)
    case atStart =>
     refine⟨n,Nat.le_refl _,hn,rfl,?_,(Below.refl _ _).alloc (by omega) _,by simp;omega⟩
     rw[show(nX fun e=>decide (n≤e)&&(decide (e<n)&&(f e==f n)))=0 from(Ql 0 _ fun b _=>by rw[zO];by_cases h:n≤b <;> simp[h];omega).symm,gG]
     exact Box.new' hsz.symm _ _
    case round =>
     obtain⟨k,hnk,hk,rfl,hs,hb,hq2⟩:=hrel
     have hx0:=WT.below hb (by omega)
     by_cases hk2:k<256
     ·have d0:=(hx0.cell k).trans (dS _ k hk2)
      have d1:=(hx0.cell n).trans (dS _ n hlt)
      obtain⟨⟨r0,r1,r2,r3⟩,_⟩:=hs.jv
      by_cases hkn:f k=f n
      ·have hbe:((f k:Int)==(f n:Int))=true:=by rw[beq_iff_eq,hkn]
       have es:(nX fun e=>decide (n≤e)&&(decide (e<k+1)&&(f e==f n)))=nP (nX fun e=>decide (n≤e)&&(decide (e<k)&&(f e==f n))) k:=by
        rw[YE _ _ hk2]
        refine AX fun b _=>?_
        by_cases h1:k=b
        ·subst h1;simp[hnk,hkn]
        ·have:decide (b<k+1)=decide (b<k):=by rw[decide_eq_decide];omega
         simp[h1,this]
       have HES:=ah es
       have HB:=ah hbe
       clear es hkn
       go_wp2_with fail
       go_region
       go_wp2_with (go_at_call 165;go_must (refine(abQ _ _ _ hk2).mono ?_;rintro e w5 ⟨rfl,lU⟩;have hs5:=hs.drew.kept lU;obtain⟨⟨t0,t1,t2,t3⟩,⟨g0,g1,g2,g3⟩⟩:=hs5.jv;have mW:=hb.drew.trans (lU.mono (Nat.le_of_lt hq2));have hq5:q<w5.heap.size:=Nat.lt_of_lt_of_le hq2 lU.size))
       go_roundw
       case rel=>exact⟨k+1,by omega,hk2,by go_num,by rw[HES.out];exact hs5.eG rfl _ _ _ _,by go_grown,by simp;exact hq5⟩
       case measure=>simp[intOf];omega
      ·have hbe:((f k:Int)==(f n:Int))=false:=by rw[beq_eq_false_iff_ne];omega
       have es:(nX fun e=>decide (n≤e)&&(decide (e<k+1)&&(f e==f n)))=(nX fun e=>decide (n≤e)&&(decide (e<k)&&(f e==f n))):=by
        refine AX fun b _=>?_
        by_cases h1:b=k
        ·subst h1;simp[hkn]
        ·have:decide (b<k+1)=decide (b<k):=by rw[decide_eq_decide];omega
         simp[this]
       have HES:=ah es
       have HB:=ah hbe
       clear es hkn
       go_wp2_with fail
       go_region
       go_wp2
       go_roundw
       case rel=>exact⟨k+1,by omega,hk2,by go_num,by rw[HES.out];exact hs.drew,hb.drew,hq2⟩
       case measure=>simp[intOf];omega
     ·obtain rfl:k=256:=by omega
      rw[show(nX fun e=>decide (n≤e)&&(decide (e<256)&&(f e==f n)))=cls (aW (bH f)) 256 n from HC.out] at hs
      have hx1:=hb1'.below hb hqw
      have hown2:=hown'.kept (hsz▸hb)
      obtain⟨⟨r0,r1,r2,r3⟩,_⟩:=hs.jv
      have hB2:=hB'.trans (hb.mono (by omega))
      go_wp2_with (at_builtin;go_must (refine fJ rfl _ _ 190 rfl Jl wX rfl (hown2.alloc _) ⟨wr.heap.size,0,none⟩ 1 (cls (aW (bH f)) 256 n) rfl ?_ ?_ ?_ ?_ ?_))
      ·exact dD wr _ _
      ·simp[maxLen];omega
      ·simp;omega
      ·have:=hB2.size;simp;omega
      intro a2 cap2 w6 hown6 ab2
      have bF:=below_grown (hB2.alloc hB2.size _) (hown2.alloc _) ab2 (by omega) (by have:=hB2.size;simp;omega)
      have hy0:=(hx1.alloc (.cells (bT (cls (aW (bH f)) 256 n)) 113)).lS (hown2.alloc _) ab2 (by decide)
      have hy1:=((WT.below hb (by omega)).alloc (.cells (bT (cls (aW (bH f)) 256 n)) 113)).lS (hown2.alloc _) ab2 (by decide)
      go_wp2
      go_roundw
      case rel =>
       refine⟨n+1,a2,cap2,hlt,by go_num,?_,hy1,hy0,?_,bF⟩
       ·rw[HE.out];simp
       ·rw[HE.out,List.map_append]
        rw[List.length_append];simpa using hown6
      case measure=>simp[intOf];omega
  ·obtain rfl:n=256:=by omega
   go_wp2
   go_ret
   refine⟨a',cap',?_,?_,hB⟩
   ·rw[List.length_map];rfl
   ·rw[List.length_map];exact hown.mono (by omega)
end
section
open Go.RowKit
theorem KF(f:Nat→Nat)(hf:∀ b,f b<256)(w:World) :
  Calls Tryz.prog 93 #[.agg (aS f)] w (aY w (.tuple #[.agg (aS (bf (aW (bH f)))),.int .i64 (iL (aW (bH f)):Nat)])):=by
 have hz:=jX
 have E:=oL (bH f)
 obtain⟨L,hP,e1,e2⟩:∃ L:List au,(∀ wx,Calls Tryz.prog 121 #[.agg (aS f)] wx (iU wx 113 4 encS L))∧aS (vg L)=aS (bf (aW (bH f)))∧L.length=iL (aW (bH f)):=by
  refine⟨_,fun wx=>WW f hf wx,dP fun c hc=>?_,by rw[List.length_map,nI]⟩
  have:=Qq E hc _ (Nat.le_refl _)
  rw[List.take_length] at this
  rw[this,if_pos];have:=Hq E.refl hc;rwa[nI] at this
 have H1:=ah e1
 have H2:=ah e2
 have HP:=ah hP
 have hle:=Hr (aW (bH f))
 clear e1 e2 hP
 go_enter Tryz.func93,Tryz.ntmps93
 go_wp2_with (first | (refine wpList_load_row rfl 22 (.tmp 1) rfl _ rfl _ _ _ _ ((Box.new _ _ _).alloc _) Tryz.underlying22 rfl (aT _) ?_) | (refine wpList_store_row rfl 22 (.tmp 2) (.tmp 7) rfl (w.heap.size+1) _ rfl rfl _ _ hx0 (aT _) (kU _ _) (gK _) ?_) | (go_at_call 121;go_must (refine(HP.out _).mono ?_;rintro e w1 ⟨a1,cap1,rfl,hown,hB⟩)) | (go_at_call 128;go_must (refine(UA a1 cap1 _ _ (hown.slice wX) (by rw[H2.out];exact hle)).mono ?_;rintro e w2 ⟨rfl,hB2⟩;rw[H1.out,H2.out];have hx0:=((Box.new' (w:=w.alloc (.cells (aS f) 22)) (b:=w.heap.size+1) (by simp) (aS fun _=>0) 22).kept hB).kept hB2)))
 have hB3:=((((Below.refl w.heap.size w).alloc (Nat.le_refl _) (.cells (aS f) 22)).alloc (by simp) (.cells (aS fun _=>0) 22)).trans (hB.mono (by simp;omega))).trans (hB2.mono (by have:=hB.size;simp at this;omega))
 exact fP Tryz.results93 rfl rfl (hx0.setRow _) Tryz.underlying22 rfl (aT _) rfl ⟨rfl,below_setRow hB3 (by omega) _⟩
theorem UC(f:Nat→Nat)(hf:∀ b,f b<256)(n:Int)(w:World) :
  Calls Tryz.prog 59 #[.agg (aS f),.int .i64 n] w (aY w (.bool (kE (bf (aW (bH f))) f&&((iL (aW (bH f)):Nat)==n)))):=by
 have hz:=jX
 have hq:=Oi (P:=Tryz.prog) (t:=22) (e:=5) Tryz.underlying22 Tryz.underlying5 (by kernel_rfl) (bf (aW (bH f))) f
 have hsz:∀ w1:World,Below (w.alloc (.cells (aS f) 22)).heap.size (w.alloc (.cells (aS f) 22)) w1→Below w.heap.size w (w1.alloc (.cells (aS (bf (aW (bH f)))) 22)):=fun w1 hB=>(((Below.refl w.heap.size w).alloc (Nat.le_refl _) _).trans (hB.mono (by go_size))).alloc (by have:=hB.size;simp at this;omega) _
 have HS:=ah hsz
 have HF:=ah hf
 clear hsz hf
 cases hs:kE (bf (aW (bH f))) f with
 | true =>
  rw[hs] at hq
  clear hs
  go_enter Tryz.func59,Tryz.ntmps59
  go_wp2_with (first | (refine wpList_load_row rfl 22 (.tmp 2) rfl _ rfl _ _ _ _ (Box.new _ _ _) Tryz.underlying22 rfl (aT _) ?_) | (refine eX rfl 22 (.tmp 5) (.tmp 10) rfl _ _ rfl rfl rfl (aT _) (kU _ _) (gK _) ?_) | (go_at_call 93;go_must (refine(KF f HF.out _).mono ?_;rintro e w1 ⟨rfl,hB⟩;have hx0:=(Box.new w (aS f) 22).kept hB)) | (refine wpList_load_row rfl 22 (.tmp 5) rfl _ rfl _ _ _ _ (Box.new _ _ _) Tryz.underlying22 rfl (aT _) ?_) | (refine wpList_load_row rfl 22 (.tmp 2) rfl _ rfl _ _ _ _ (hx0.alloc _) Tryz.underlying22 rfl (aT _) ?_))
  go_ret
  exact⟨rfl,HS.out _ hB⟩
 | false =>
  rw[hs] at hq
  clear hs
  go_enter Tryz.func59,Tryz.ntmps59
  go_wp2_with (first | (refine wpList_load_row rfl 22 (.tmp 2) rfl _ rfl _ _ _ _ (Box.new _ _ _) Tryz.underlying22 rfl (aT _) ?_) | (refine eX rfl 22 (.tmp 5) (.tmp 10) rfl _ _ rfl rfl rfl (aT _) (kU _ _) (gK _) ?_) | (go_at_call 93;go_must (refine(KF f HF.out _).mono ?_;rintro e w1 ⟨rfl,hB⟩;have hx0:=(Box.new w (aS f) 22).kept hB)) | (refine wpList_load_row rfl 22 (.tmp 5) rfl _ rfl _ _ _ _ (Box.new _ _ _) Tryz.underlying22 rfl (aT _) ?_) | (refine wpList_load_row rfl 22 (.tmp 2) rfl _ rfl _ _ _ _ (hx0.alloc _) Tryz.underlying22 rfl (aT _) ?_))
  go_ret
  exact⟨rfl,HS.out _ hB⟩
end
section
open Go.RowKit
theorem Y2(x a1 b1 a2 b2 c r:Nat)(w:World)
  (ha1:bits BinOp.and IntKind.u64 ((x:Int) / 2) 6148914691236517205=(a1:Int)) (hb1:bits BinOp.and IntKind.u64 (x:Int) 6148914691236517205=(b1:Int)) (h1:a1+b1<18446744073709551616)
  (ha2:bits BinOp.and IntKind.u64 (((a1:Int)+(b1:Int)) / 4) 3689348814741910323=(a2:Int)) (hb2:bits BinOp.and IntKind.u64 ((a1:Int)+(b1:Int)) 3689348814741910323=(b2:Int)) (h2:(a2+b2) / 16+(a2+b2)<18446744073709551616)
  (hc:bits BinOp.and IntKind.u64 (((a2:Int)+(b2:Int)) / 16+((a2:Int)+(b2:Int))) 1085102592571150095=(c:Int)) (h3:c≤578721382704613384)
  (hr:bits BinOp.and IntKind.i64 ((c:Int)+(c:Int) / 256+((c:Int)+(c:Int) / 256) / 65536+((c:Int)+(c:Int) / 256+((c:Int)+(c:Int) / 256) / 65536) / 4294967296) 127=(r:Int)) :
  Calls Tryz.prog 182 #[.int .u64 x] w fun e w'=>e=.returned (.int .i64 r)∧w'=w:=by
 go_enter Tryz.func182,Tryz.ntmps182
 go_wp2
 go_ret
 exact⟨rfl,rfl⟩
theorem Vs(x d M:Nat)(hx:x<18446744073709551616)(hM:M<18446744073709551616):bits BinOp.and IntKind.u64 ((x:Int) / (d:Int)) (M:Int)=((x / d &&& M:Nat):Int):=by
 rw[←Int.natCast_ediv];exact bits_and_u64_nat _ _ (Nat.lt_of_le_of_lt (Nat.div_le_self _ _) hx) hM
theorem agB(x:Nat)(hx:x<18446744073709551616)(w:World) :
  Calls Tryz.prog 182 #[.int .u64 x] w fun e w'=>e=.returned (.int .i64 ((jy x).length:Nat))∧w'=w:=by
 obtain⟨h3,hs⟩:=abI x
 have hp1:x / 2 &&& 6148914691236517205≤6148914691236517205:=Nat.and_le_right
 have hp2:x &&& 6148914691236517205≤6148914691236517205:=Nat.and_le_right
 have hq1:jl x / 4 &&& 3689348814741910323≤3689348814741910323:=Nat.and_le_right
 have hq2:jl x &&& 3689348814741910323≤3689348814741910323:=Nat.and_le_right
 have hb1:jl x<18446744073709551616:=by unfold jl;omega
 have hb2:mG (jl x) / 16+mG (jl x)<18446744073709551616:=by unfold mG;omega
 have c1:(((x / 2 &&& 6148914691236517205:Nat):Int)+((x &&& 6148914691236517205:Nat):Int))=((jl x:Nat):Int):=by unfold jl;omega
 have c2:(((jl x / 4 &&& 3689348814741910323:Nat):Int)+((jl x &&& 3689348814741910323:Nat):Int))=((mG (jl x):Nat):Int):=by unfold mG;omega
 refine Y2 x (x / 2 &&& 6148914691236517205) (x &&& 6148914691236517205) (jl x / 4 &&& 3689348814741910323) (jl x &&& 3689348814741910323) (xg (mG (jl x))) _ w
  (Vs x 2 6148914691236517205 hx (by decide)) (bits_and_u64_nat x 6148914691236517205 hx (by decide)) hb1 ?_ ?_ hb2 ?_ h3 ?_
 ·rw[c1];exact Vs _ 4 3689348814741910323 hb1 (by decide)
 ·rw[c1];exact bits_and_u64_nat _ 3689348814741910323 hb1 (by decide)
 ·rw[c2,show((mG (jl x):Nat):Int) / 16+((mG (jl x):Nat):Int)=((mG (jl x) / 16+mG (jl x):Nat):Int) by omega]
  exact bits_and_u64_nat _ 1085102592571150095 hb2 (by decide)
 ·rw[i64_and127,←hs]
  generalize xg (mG (jl x))=c
  omega
def Fq(s:au):Nat→Nat
 | 0=>0
 | j+1=>Fq s j+(jy (word s j)).length
theorem Vu(s:au):∀ j,Fq s j≤64*j
 | 0=>Nat.le_refl _
 | j+1=>by
  have h:=Vu s j
  have h2:(jy (word s j)).length≤64:=by have:=List.length_filter_le (fun i=>(word s j).testBit i) (List.range 64);simpa [jy] using this
  simp only[Fq];omega
theorem WX(s:au):Fq s 4=(elems s).length:=by
 rw[Ir];simp[Fq,zu,jU];omega
theorem KG(s:au)(w:World):Calls Tryz.prog 135 #[.agg (bT s)] w (aY w (.int .i64 ((elems s).length:Nat))):=by
 rw[←WX]
 go_enter Tryz.func135,Tryz.ntmps135
 go_wp2
 go_loopw [3,7] (fun n i wr=>∃ j:Nat,j≤4∧i=.int .i64 j∧n=.int .i64 (Fq s j:Nat)∧Below w.heap.size w wr) (fun _ i _=>4 - (intOf i).toNat)
 case atStart=>exact⟨0,Nat.zero_le _,rfl,rfl,by go_grown⟩
 case round =>
  obtain⟨j,hj,rfl,rfl,hB⟩:=hrel
  by_cases hlt:j<4
  ·have gw:=Bc s j hlt
   have hle:=Vu s j
   have hO:=agB (word s j) (word_lt s j)
   have hst:Fq s (j+1)=Fq s j+(jy (word s j)).length:=rfl
   have hle2:(jy (word s j)).length≤64:=by have:=List.length_filter_le (fun i=>(word s j).testBit i) (List.range 64);simpa [jy] using this
   have HO:=ah hO
   clear hO
   generalize (jy (word s j)).length=m at *
   go_wp2_with (go_at_call 182;go_must (refine(HO.out _).mono ?_;rintro e w1 ⟨rfl,rfl⟩))
   go_roundw
   case rel=>exact⟨j+1,hlt,by go_num,by rw[hst];go_num,hB⟩
   case measure=>simp[intOf];omega
  ·obtain rfl:j=4:=by omega
   go_wp2
   go_ret
   exact⟨rfl,hB⟩
end
section
open Go.RowKit
def cO(n:Nat):Nat:=(n+63) / 64
def tH(m S:Nat):Array Value:=((je m S).map fun x=>Value.int .u64 (x:Nat)).toArray
theorem o8(m S k:Nat)(h:k<m):(tH m S)[k]?=some (.int .u64 (dU S k:Nat)):=by simp[tH,je,h]
theorem UD(m S:Nat):(tH m S).size=m:=by simp[tH,je]
theorem WY(m S i:Nat):tH m (S ||| 1 <<< i)=(tH m S).setIfInBounds (i / 64) (.int .u64 ((dU S (i / 64) ||| 1 <<< (i % 64):Nat):Nat)):=by
 unfold tH
 rw[WI,List.setIfInBounds_toArray,List.map_set]
structure fO(w:World)(p g n S:Nat):Prop where
 box:Box w p #[.int .i64 n,.slice (some ⟨g,0,none⟩) (cO n) (cO n)] 341
 words:Box w g (tH (cO n) S) 111
 lt:S<2 ^ n
 ne:p≠g
theorem fO.kept{w w':World}{p g n S:Nat}(h:fO w p g n S)(hb:Below w.heap.size w w'):fO w' p g n S:=⟨h.box.kept hb,h.words.kept hb,h.lt,h.ne⟩
theorem Ov(n:Nat):bits BinOp.and IntKind.i64 (n:Int) 63=((n % 64:Nat):Int):=by
 have h63:(BitVec.ofInt 64 63).toNat=2 ^ 6 - 1:=by decide
 have key:(BitVec.ofInt 64 (n:Int) &&& BitVec.ofInt 64 63).toNat=((n:Int) % ((2 ^ 64:Nat):Int)).toNat % 2 ^ 6:=by
  rw[BitVec.toNat_and,BitVec.toNat_ofInt,h63,Nat.and_two_pow_sub_one_eq_mod]
 show IntKind.i64.wrap ((BitVec.ofInt 64 (n:Int) &&& BitVec.ofInt 64 63).toNat:Nat)=_
 rw[key,IntKind.wrap_i64]
 omega
theorem ab3:dQ Tryz.prog 339 111 (.int .u64 0) 1 8:=⟨Tryz.underlying339,info_parts (by kernel_rfl),rfl,by decide⟩
def agC(x:Nat):List Value:=[.int .u64 (x:Nat)]
theorem afB:fB agC 1:=⟨fun _=>rfl,fun x u hu=>by simp[agC] at hu;subst hu;rfl⟩
theorem WZ(m:Nat):madeCells #[Value.int .u64 0] (m*1)=tH m 0:=by
 apply Array.ext_getElem?
 intro i
 by_cases h:i<m
 ·rw[yN _ _ _ (by omega) (by simp),o8 _ _ _ h,show dU 0 i=0 by simp[dU]]
  simp[Nat.mod_one]
 ·rw[Array.getElem?_eq_none (by rw[size_madeCells];omega),Array.getElem?_eq_none (by rw[UD];omega)]
theorem KH(n:Nat)(w:World)(hn:n≤1048576):Calls Tryz.prog 238 #[.int .i64 n] w fun e w'=>e=.returned (.tuple #[.pointer (some ⟨w.heap.size+1,0,none⟩),.int .i64 0])∧fO w' (w.heap.size+1) w.heap.size n 0∧w'.heap.size=w.heap.size+2∧Below w.heap.size w w':=by
 have h1:decide ((n:Int)<0)=false:=decide_eq_false (by omega)
 have h2:decide ((1048576:Int)<(n:Int))=false:=by simp;omega
 have hq:((n:Int)+63) / 64=((cO n:Nat):Int):=by unfold cO;omega
 have hm:cO n≤16384:=by unfold cO;omega
 have HQ:=ah hq
 clear hq
 go_enter Tryz.func238,Tryz.ntmps238
 go_wp2_with (refine nZ rfl 339 _ _ rfl ab3 afB 0 rfl (cO n) (congrArg (Value.int .i64) HQ.out) (congrArg (Value.int .i64) HQ.out) (by omega) (by simp[maxLen];omega) w.heap.size (Nat.le_refl _) ?_;intro w1 ho hw1;have hs1:w1.heap.size=w.heap.size+1:=(by rw[hw1];simp))
 go_ret2
 have e:=WZ (cO n)
 rw[Nat.mul_one] at e
 rw[e]
 have hB1:=aj w (.cells (tH (cO n) 0) 111)
 exact⟨rfl,⟨Box.new' (by simp) _ _,(Box.new w _ _).alloc _,Nat.pos_of_ne_zero (by simp),by omega⟩,by simp,hB1.alloc hB1.size _⟩
theorem Iz(n i:Nat)(w:World):Calls Tryz.prog 259 #[.int .i64 n,.int .i64 i] w fun e w'=>e=.returned (.bool (decide (i<n)))∧w'=w:=by
 have h1:decide ((0:Int)≤(i:Int))=true:=by simp
 have h2:decide ((i:Int)<(n:Int))=decide (i<n):=by simp
 go_enter Tryz.func259,Tryz.ntmps259
 go_wp2
 go_ret
 exact⟨rfl,rfl⟩
theorem ab4(p g n S i:Nat)(w:World)(h:fO w p g n S)(hi:i≤1099511627776):Calls Tryz.prog 260 #[.pointer (some ⟨p,0,none⟩),.int .i64 i] w fun e w'=>e=.returned (.bool (decide (i<n)&&S.testBit i))∧w'=w:=by
 have hf:=fun u=>Iz n i u
 have x0:w.cell? ⟨p,0,none⟩=some (.int .i64 n):=h.box.cell 0
 have x1:w.cell? ⟨p,1,none⟩=some (.slice (some ⟨g,0,none⟩) (cO n) (cO n)):=h.box.cell 1
 have h63:=Ov i
 by_cases hin:i<n
 ·rw[decide_eq_true hin] at hf
  have hk:i / 64<cO n:=by unfold cO;omega
  have hz:=D5 S (i / 64)
  have x2:w.cell? ⟨g,i / 64,none⟩=some (.int .u64 (dU S (i / 64):Nat)):=(h.words.cell _).trans (o8 _ _ _ hk)
  rw[decide_eq_true hin,Bool.true_and]
  have hb:(dU S (i / 64)).testBit (i % 64)=S.testBit i:=by
   rw[uI,decide_eq_true (Nat.mod_lt _ (by decide)),Bool.true_and,show 64*(i / 64)+i % 64=i by omega]
  have ha:=and_one _ (i % 64) hz
  rw[hb] at ha
  have h64:i % 64<64:=Nat.mod_lt _ (by decide)
  have HF:=ah hf;have HA:=ah ha;have H63:=ah h63
  clear hf h hb ha h63
  generalize dU S (i / 64)=z at *
  go_enter Tryz.func260,Tryz.ntmps260
  go_wp2_with (first | (go_at_call 259;go_must (refine(HF.out _).mono ?_;rintro e w2 ⟨rfl,rfl⟩)) | (simp only[H63.out]))
  go_ret
  exact⟨congrArg (fun b=>Ending.returned (.bool b)) HA.out,rfl⟩
 ·rw[decide_eq_false hin] at hf ⊢
  have HF:=ah hf
  clear hf h h63
  go_enter Tryz.func260,Tryz.ntmps260
  go_wp2_with (go_at_call 259;go_must (refine(HF.out _).mono ?_;rintro e w2 ⟨rfl,rfl⟩))
  go_ret
  exact⟨rfl,rfl⟩
theorem fO.put{w:World}{p g n S i:Nat}(h:fO w p g n S)(hi:i<n):fO (w.setCell ⟨g,i / 64,none⟩ (.int .u64 ((dU S (i / 64) ||| 1 <<< (i % 64):Nat):Nat))) p g n (S ||| 1 <<< i) :=
 ⟨h.box.other _ _ h.ne,by rw[WY];exact h.words.set _ _,YJ n S i hi h.lt,h.ne⟩
structure ig(g:Nat)(w w':World):Prop where
 os:w'.os=w.os
 tape:w'.tape=w.tape
 output:w'.output=w.output
 size:w.heap.size≤w'.heap.size
 block:∀ b,b<w.heap.size→b≠g→w'.heap[b]?=w.heap[b]?
theorem ig.below{g:Nat}{w w':World}(h:Below w.heap.size w w'):ig g w w':=⟨h.os,h.tape,h.output,h.size,fun b hb _=>h.block b hb⟩
theorem ig.refl(g:Nat)(w:World):ig g w w:=.below (Below.refl _ _)
theorem ig.trans{g:Nat}{a b c:World}(h:ig g a b)(k:ig g b c):ig g a c :=
 ⟨k.os.trans h.os,k.tape.trans h.tape,k.output.trans h.output,Nat.le_trans h.size k.size,fun x hx hn=>(k.block x (Nat.lt_of_lt_of_le hx h.size) hn).trans (h.block x hx hn)⟩
theorem ig.set{g:Nat}{w w':World}(h:ig g w w')(i:Nat)(u:Value):ig g w (w'.setCell ⟨g,i,none⟩ u) :=
 ⟨h.os,h.tape,h.output,(by rw[World.size_setCell];exact h.size),fun b hb h1=>(heap_setCell_other w' ⟨g,i,none⟩ b u h1).trans (h.block b hb h1)⟩
theorem ig.box{g:Nat}{w w':World}{b:Nat}{c:Array Value}{E:TypeId}(h:ig g w w')(hx:Box w b c E)(hn:b≠g):Box w' b c E:=(h.block b hx.lt hn).trans hx
theorem ig.toBelow{g:Nat}{w0 w w':World}(h:ig g w w')(hb:Below w0.heap.size w0 w)(hg:w0.heap.size≤g):Below w0.heap.size w0 w' :=
 ⟨h.os.trans hb.os,h.tape.trans hb.tape,h.output.trans hb.output,Nat.le_trans hb.size h.size,fun b hb'=>(h.block b (Nat.lt_of_lt_of_le hb' hb.size) (by omega)).trans (hb.block b hb')⟩
def ou(p g n S i:Nat)(w:World)(e:Ending)(w':World):Prop :=
 if i<n∧S.testBit i=false then e=.returned (.bool true)∧fO w' p g n (S ||| 1 <<< i)∧ig g w w' else e=.returned (.bool false)∧w'=w
theorem QM(p g n S i:Nat)(w:World)(h:fO w p g n S)(hi:i≤1099511627776):Calls Tryz.prog 239 #[.pointer (some ⟨p,0,none⟩),.int .i64 i] w (ou p g n S i w):=by
 have hf:=fun u=>Iz n i u
 have hh:=ab4 p g n S i w h hi
 have x0:w.cell? ⟨p,0,none⟩=some (.int .i64 n):=h.box.cell 0
 have x1:w.cell? ⟨p,1,none⟩=some (.slice (some ⟨g,0,none⟩) (cO n) (cO n)):=h.box.cell 1
 have h63:=Ov i
 by_cases hin:i<n
 ·rw[decide_eq_true hin] at hf hh
  have hk:i / 64<cO n:=by unfold cO;omega
  have hz:=D5 S (i / 64)
  have x2:w.cell? ⟨g,i / 64,none⟩=some (.int .u64 (dU S (i / 64):Nat)):=(h.words.cell _).trans (o8 _ _ _ hk)
  have f2:=h.words.free (i / 64)
  cases hb:S.testBit i with
  | true =>
   have hR:∀ e w',e=.returned (.bool false)∧w'=w→ou p g n S i w e w':=fun e w' h=>by unfold ou;rw[if_neg (by simp[hb])];exact h
   generalize ou p g n S i w=R at *
   rw[hb] at hh
   have HF:=ah hf;have HH:=ah hh;have HR:=ah hR
   clear hf h hh hR h63 x2 f2 hb
   go_enter Tryz.func239,Tryz.ntmps239
   go_wp2_with (first | (go_at_call 259;go_must (refine(HF.out _).mono ?_;rintro e w2 ⟨rfl,rfl⟩)) | (go_at_call 260;go_must (refine HH.out.mono ?_;rintro e w3 ⟨rfl,rfl⟩)))
   exact HR.out _ _ ⟨rfl,rfl⟩
  | false =>
   have hR:∀ e w',e=.returned (.bool true)∧fO w' p g n (S ||| 1 <<< i)∧ig g w w'→ou p g n S i w e w':=fun e w' h=>by unfold ou;rw[if_pos ⟨hin,hb⟩];exact h
   generalize ou p g n S i w=R at *
   rw[hb] at hh
   have hor:=or_bit _ (i % 64) hz (Nat.mod_lt _ (by decide))
   rw[←Nat.one_shiftLeft] at hor
   have h64:i % 64<64:=Nat.mod_lt _ (by decide)
   have HF:=ah hf;have HH:=ah hh;have HR:=ah hR;have HO:=ah hor;have H63:=ah h63
   clear hf hh hR hb hor h63
   have hput:=fun u (hu:fO u p g n S)=>hu.put hin
   have HF2:Hid (∀ u,Later w.drew u→fO u p g n S∧u.cell? ⟨g,i / 64,none⟩=some (.int .u64 (dU S (i / 64):Nat))):=ah fun u hl=>⟨⟨h.box.drew.kept hl,h.words.drew.kept hl,h.lt,h.ne⟩,((h.words.drew.kept hl).cell _).trans (o8 _ _ _ hk)⟩
   have HP:=ah hput
   have hg0:(0:Int)≤(i:Int) / 64:=by omega
   have hg1:(i:Int) / 64<((cO n:Nat):Int):=by omega
   have hg2:((i:Int) / 64).toNat=i / 64:=by omega
   have hg3:((i:Int) % 64).toNat=i % 64:=by omega
   have HG:=ah (And.intro hg0 (And.intro hg1 (And.intro hg2 hg3)))
   clear hput hg0 hg1 hg2 hg3
   generalize dU S (i / 64)=z at *
   go_enter Tryz.func239,Tryz.ntmps239
   go_wp2_with (first | (go_at_call 259;go_must (refine(HF.out _).mono ?_;rintro e w2 ⟨rfl,rfl⟩)) | (go_at_call 260;go_must (refine HH.out.mono ?_;rintro e w3 ⟨rfl,rfl⟩)))
   clear h x0 x1 x2 f2
   refine aA (R:=Later) 13 (by kernel_rfl) ?_
   refine pl [0,1,2,3,4,5,6,7,8,9,10,11,12] ?_
   repeat
    refine dI ?_ rfl (fun w1 hl=>?_) ?_
    rotate_left
    ·obtain⟨hS,x2⟩:=HF2.out w1 hl;have x0:=hS.box.cell 0;have x1:=hS.box.cell 1;have h63:=H63.out;have ho:=HO.out;obtain⟨hg0,hg1,hg2,hg3⟩:=HG.out;go_simp;try with_reducible rfl
    simp only[eA,eB,eC,Act.put,eD,eE,eF]
   refine bU ?_
   refine aP (t:=13) (i:=13) (by kernel_rfl) rfl (fun w1 hl K hK=>?_)
   obtain⟨hS,x2⟩:=HF2.out w1 hl
   have f2:=hS.words.free (i / 64)
   go_simp
   refine hK.out _ _ (fun h=>absurd rfl h) ?_
   clear hK K
   have Dh:=HP.out w1 hS
   have hON:ig g w3 (w1.setCell ⟨g,i / 64,none⟩ (.int .u64 ((z ||| 1 <<< (i % 64):Nat):Nat))):=(ig.below ((Below.refl w3.heap.size w3).drew.trans hl)).set _ _
   clear hl hS x2 f2 HF2
   refine aH (by kernel_rfl) (fun w1 hl=>?_) _
   have alG:=Dh.kept hl
   have alH:=hON.trans (.below hl)
   clear hl Dh hON
   go_wp2
   trace_state
   exact HR.out _ _ ⟨rfl,alG,alH⟩
 ·rw[decide_eq_false hin] at hf
  have hR:∀ e w',e=.returned (.bool false)∧w'=w→ou p g n S i w e w':=fun e w' h=>by unfold ou;rw[if_neg (by omega)];exact h
  generalize ou p g n S i w=R at *
  have HF:=ah hf;have HR:=ah hR
  clear hf h hh hR h63
  go_enter Tryz.func239,Tryz.ntmps239
  go_wp2_with (go_at_call 259;go_must (refine(HF.out _).mono ?_;rintro e w2 ⟨rfl,rfl⟩))
  exact HR.out _ _ ⟨rfl,rfl⟩
end
section
open Go.RowKit
abbrev QN:Value:=.agg #[.int .i64 0,.int .u64 0,.int .u64 0,.int .u64 0,.int .u64 0,.slice none 0 0,.int .i64 0,.int .i64 0]
abbrev bG:Array Value:=#[.int .i64 0,.int .u64 0,.int .u64 0,.int .u64 0,.int .u64 0,.slice none 0 0,.int .i64 0,.int .i64 0]
theorem Fv:dQ Tryz.prog 109 115 QN 8 80 :=
 ⟨Tryz.underlying109,info_parts (by kernel_rfl),rfl,by decide⟩
theorem Y4(w:World):ak w (.slice none 0 0) 8 Vt.cells ([]:List Vt):=⟨none,0,0,0,rfl,Nat.le_refl _,by simp[maxLen],.inr ⟨rfl,fun _=>rfl⟩,fun i h=>by simp at h⟩
theorem Y5(w:World)(k:Int)(s:au)(hk:I64 k):Lies w (.mk k s none 0 [] 0 0):=.mk k s none 0 [] 0 0 hk (by decide) (by decide) (Y4 w) (fun i h=>by simp at h)
theorem afC(S:Nat→Prop)(k:Int)(s:au):On S (.mk k s none 0 [] 0 0):=.mk k s none 0 [] 0 0 (fun h=>by simp at h) (fun i h=>by simp at h)
abbrev P8(k:Int)(s:au):Tr:=.mk k s [] 0 0
theorem afD(k:Int)(s:au):(Vt.mk k s none 0 [] 0 0).tr=P8 k s:=by rw[Vt.jJ];rfl
theorem QO{w w':World}(k:Int)(s:au)(hk:I64 k)(hb:Below w.heap.size w w'):Qy w (P8 k s) (.returned (.agg (aC k s none 0 0 0 0).toArray)) w' :=
 ⟨.mk k s none 0 [] 0 0,rfl,afD k s,Y5 w' k s hk,afC _ k s,hb⟩
theorem KI(s:au)(w:World):Calls Tryz.prog 136 #[iK s] w (Qy w (P8 3 s)):=by
 go_enter Tryz.func136,Tryz.ntmps136
 go_wp2
 exact cZ Tryz.results136 rfl (cs:=(aC 3 s none 0 0 0 0).toArray) (Box.new' (World.size_alloc _ _).symm _ _) Tryz.underlying115 rfl (by kernel_rfl) rfl (QO 3 s (by decide) (by go_grown))
theorem UE(w:World):Calls Tryz.prog 257 #[] w (aY w (.agg (aC 2 0 none 0 0 0 0).toArray)):=by
 have hz:aC 2 0 none 0 0 0 0=[.int .i64 2,.int .u64 0,.int .u64 0,.int .u64 0,.int .u64 0,.slice none 0 0,.int .i64 0,.int .i64 0]:=by simp only[aC,qK];rfl
 go_enter Tryz.func257,Tryz.ntmps257
 go_wp2
 exact cZ Tryz.results257 rfl (cs:=(aC 2 0 none 0 0 0 0).toArray) (by rw[hz];exact Box.new' rfl _ _) Tryz.underlying115 rfl (by kernel_rfl) rfl ⟨rfl,by go_grown⟩
theorem W9(w:World):Calls Tryz.prog 257 #[] w (Qy w (P8 2 0)):=(UE w).mono fun e w' h=>by
 obtain⟨rfl,hb⟩:=h
 exact QO 2 0 (by decide) hb
end
section
open Go.RowKit
theorem ab5{P:Program}{t e:TypeId}(hu:P.underlying t=some (.array 4 e))(he:P.underlying e=some (.int .u64))(hi:(P.info? e).map (fun i=>i.size)=some 1)(s u:au)(w:World) :
  (Op.equalIn 10000 t (iK s) (iK u)).run P w=.ok (decide (s=u)) w:=by
 cases hq:P.info? e with
 | none=>simp[hq] at hi
 | some i =>
  have hs:i.size=1:=by simpa [hq] using hi
  have hc:P.cellsOf e=1:=by simp[Program.cellsOf,hq,hs]
  have:=o7 (P:=P) 9998 (q:=.u64) hu he hq hc [(word s 0:Nat),(word s 1:Nat),(word s 2:Nat),(word s 3:Nat)] [(word u 0:Nat),(word u 1:Nat),(word u 2:Nat),(word u 3:Nat)] rfl rfl w
  refine this.trans ?_
  congr 1
  rw[decide_eq_decide]
  constructor
  ·intro h
   simp only[List.cons.injEq,and_true,Int.natCast_inj] at h
   obtain⟨h0,h1,h2,h3⟩:=h
   refine word_inj fun i hi=>?_
   match i,hi with
   | 0,_=>exact h0
   | 1,_=>exact h1
   | 2,_=>exact h2
   | 3,_=>exact h3
  ·rintro rfl;rfl
end
section
open Go.RowKit
theorem room_of_none{F:Fence}(hd:F.depth=none)(k:Nat):F.room k:=fun d h=>by rw[hd] at h;cases h
theorem Y6{F:Fence}(hd:F.depth=none){m m':Nat}{P:Program}{l:Nat}{f:FuncId}{tmps:Array Value}{assign body:Code}{w:World}{R:Ending→World→Prop}
  (h:RoundIn F m P l f tmps assign body w R):RoundIn F m' P l f tmps assign body w R:=⟨h.1,fun c cs _=>h.2 c cs (room_of_none hd _)⟩
theorem Y7{F:Fence}(hd:F.depth=none){m:Nat}(m':Nat){P:Program}{l:Nat}{args:Array Value}{W:World}{R:Ending→World→Prop}(h:YieldAt F m P l args W R):YieldAt F m' P l args W R:=by
 obtain⟨fn,tmps,assign,body,hy,hR⟩:=h
 exact⟨fn,tmps,assign,body,hy,Y6 hd hR⟩
structure aQ(X:Nat→Prop)(W W':World):Prop where
 size:W.heap.size≤W'.heap.size
 same:∀ b,¬ X b→∀ (c:Array Value) (E:Nat) (fr:Nat×Nat),W.heap[b]?=some (.cells c E fr)→W'.heap[b]?=some (.cells c E fr)
section
variable {X:Nat→Prop} {A B C W W':World}
theorem aQ.refl(X:Nat→Prop)(W:World):aQ X W W:=⟨Nat.le_refl _,fun _ _ _ _ _ h=>h⟩
theorem aQ.trans(h:aQ X A B)(k:aQ X B C):aQ X A C:=⟨Nat.le_trans h.size k.size,fun b hb c E fr e=>k.same b hb c E fr (h.same b hb c E fr e)⟩
theorem aQ.below(h:Below W.heap.size W W'):aQ X W W':=⟨h.size,fun b _ _ _ _ e=>(h.block b (Array.getElem?_eq_some_iff.1 e).1).trans e⟩
theorem aQ.set(W:World)(a:Addr)(v:Value)(h:X a.block):aQ X W (W.setCell a v) :=
 ⟨by simp[World.setCell],fun b hb _ _ _ e=>(heap_setCell_other W a b v (fun e=>hb (e▸h))).trans e⟩
theorem aQ.put{l:Nat}{o o':Obj}(h:W.heap[l]?=some o)(hc:o.isCells=false):aQ X W (W.putObj l o') :=
 ⟨by simp,fun b _ _ _ _ e=>(World.putObj_heap_other (fun e2=>by subst e2;rw[h] at e;cases e;cases hc)).trans e⟩
theorem aQ.cell(h:aQ X W W'){a:Addr}{v:Value}(ha:¬ X a.block)(hv:W.cell? a=some v):W'.cell? a=some v:=by
 obtain⟨o,ho,hc⟩:=cells_of_cell hv
 cases o with
 | cells _ _ _=>rw[←hv];exact World.cell?_of_block ((h.same _ ha _ _ _ ho).trans ho.symm)
 | _=>cases hc
theorem aQ.box(h:aQ X W W'){b E:Nat}{c:Array Value}(hb:¬ X b)(hx:Box W b c E):Box W' b c E:=h.same b hb c E (0,0) hx
theorem aQ.slice(h:aQ X W W'){α:Type}{a:Option Addr}{n cap size:Nat}{enc:α→List Value}{xs:List α}(hs:ak W (.slice a n cap) size enc xs)(ha:0<xs.length→∀ ad,a=some ad→¬ X ad.block):ak W' (.slice a n cap) size enc xs:=by
 obtain⟨a',b,o,cap',hv,hl,hc,ha',hx⟩:=hs
 obtain⟨rfl,rfl,rfl⟩:=Value.slice.inj hv
 refine⟨a,b,o,cap,rfl,hl,hc,ha',fun i hi j u hu=>?_⟩
 rcases ha' with rfl | ⟨rfl,_⟩
 ·exact h.cell (a:=⟨b,o+i*size+j,none⟩) (ha (by omega) ⟨b,o,none⟩ rfl) (hx i hi j u hu)
 ·simp at hi
end
theorem Hy{X:Nat→Prop}{w:World}(W:World)(l:Nat)(o o':Obj)(_:w.heap.size≤l)(h:W.heap[l]?=some o)(hc:o.isCells=false)(_:o.isWalk=false):aQ X W (W.putObj l o'):=aQ.put h hc
theorem Fz{β:Type}{B:Nat}{J:β→World→Prop}(h:AbidesFrom B J){s:β}{W W':World}(hs:J s W)(hb:Below W.heap.size W W'):J s W' :=
 h s W W' none hs ⟨hb.os,hb.tape,hb.output,hb.size,fun k hk _=>hb.block k hk⟩ (fun r e=>by cases e)
theorem iC{β:Type}(B b E:Nat)(f:β→Array Value):OwnFrom B (fun(s:β) W=>Box W b (f s) E):=fun s W W' row hs hg hr=>by
 refine(hg.block b hs.lt fun e=>?_).trans hs
 obtain⟨_,o,ho,hc⟩:=hr b e.symm
 rw[show W.heap[b]?=_ from hs] at ho
 cases ho;cases hc
theorem PD{β:Type}(B:Nat):OwnFrom B (fun(_:β) (_:World)=>False):=fun _ _ _ _ h _ _=>h
end
section
open Go.RowKit
theorem Jo{α:Type}{w:World}{qB E size:Nat}{enc:α→List Value}{v:Value}{xs:List α}{F:Fence}{n:Nat}{P:Program}{ops:Array Oper}{rest:List Oper}{o:Oper}{a:Act}{Q:Exit→Act→World→Prop}(hgd:o.guard=none)(s x:Operand)(t:TypeId)
  (ho:o.op=.call { callee:=.builtin .append,args:=#[s,x],argTypes:=#[t,t] }) {z:Value} {bytes:Nat} (hE:dQ P t E z size bytes) (he:fB enc size)
  (hs:a.eval s=v) (hown:Own w qB E size enc v xs) (ad:Addr) (c:Nat) (y:α) (hx:a.eval x=.slice (some ad) 1 c) (hnews:∀ j u,(enc y)[j]?=some u→w.cell? (ad.add j)=some u)
  (h63:xs.length+1≤maxLen) (hbytes:(xs.length+1)*bytes≤140737488355328) (hbase:qB≤w.heap.size)
  (h:∀ a' cap' w',Own w' qB E size enc (.slice a' (xs.length+1) cap') (xs++[y])→w.grownBy w' v.ownBlock→wpListIn F n P ops Q rest (a.put o.dst (.slice a' (xs.length+1) cap')) w'):wpListIn F n P ops Q (o::rest) a w:=by
 obtain⟨i,hi,hz,hsz,hby⟩:=hE.info
 refine wpListIn_append_own w hgd s x t ho qB E i z size bytes hE.slice hi hz hsz hby hE.Hl hE.pos v xs.length (xs.flatMap enc) hs (hown.rV he) ad 1 c (enc y) hx (by rw[he.len,Nat.one_mul]) hnews (he.one y) h63 hbytes hbase ?_
 intro v' w' hr hg _
 have hr':Own w' qB E size enc v' (xs++[y]):=by
  refine Own.ofRow ?_ he
  rw[List.length_append,List.flatMap_append]
  simpa using hr
 obtain⟨a',cap',rfl⟩:=hr'.form
 have e:(xs++[y]).length=xs.length+1:=by simp
 rw[e] at hr' ⊢
 exact h a' cap' w' hr' hg
theorem Own.block{α:Type}{w:World}{qB E size:Nat}{enc:α→List Value}{v:Value}{xs:List α}(h:Own w qB E size enc v xs)(g:Nat)(hg:v.ownBlock=some g):qB≤g∧∃ cur,Box w g cur E:=by
 obtain⟨a,cap,rfl,_,_,hh⟩:=h
 rcases hh with⟨rfl,_⟩ | ⟨g',cur,rfl,hb,hg',_⟩
 ·simp[Value.ownBlock] at hg
 ·simp[Value.ownBlock] at hg;subst hg;exact⟨hb,cur,hg'⟩
theorem Cj{α β:Type}(B qB E size:Nat)(enc:α→List Value)(v:β→Value)(xs:β→List α):OwnFrom B (fun(s:β) W=>Own W qB E size enc (v s) (xs s)):=fun s W W' row hs hg hr=>by
 obtain⟨a,cap,hv,hle,hm,hh⟩:=hs
 refine⟨a,cap,hv,hle,hm,?_⟩
 rcases hh with hh | ⟨g,cur,ha,hb,hg',hc⟩
 ·exact .inl hh
 ·exact .inr ⟨g,cur,ha,hb,iC B g E (fun _:Unit=>cur) () W W' row hg' hg hr,hc⟩
theorem aQ.grown{α:Type}{X:Nat→Prop}{w w':World}{qB E size:Nat}{enc:α→List Value}{v:Value}{xs:List α}(h:Own w qB E size enc v xs)(hg:w.grownBy w' v.ownBlock)(hX:∀ b,qB≤b→X b):aQ X w w' :=
 ⟨hg.size,fun b hb _ _ _ e=>(hg.block b (Array.getElem?_eq_some_iff.1 e).1 fun e2=>hb (hX b (h.block b e2.symm).1)).trans e⟩
theorem KeepsOthers.Jp{α:Type}{w w':World}{qB E size:Nat}{enc:α→List Value}{v:Value}{xs:List α}(h:Own w qB E size enc v xs)(hg:w.grownBy w' v.ownBlock):KeepsOthers w w' :=
 KeepsOthers.of_grownBy hg fun j o e ho=>by
  obtain⟨_,cur,hb⟩:=h.block j e
  rw[show w.heap[j]?=_ from hb] at ho
  cases ho;rfl
end
section
open Go.RowKit
theorem zV{P:Program}{w:World}{qB t ty e size bytes n m c:Nat}{i:TypeInfo}{z v:Value}{xs news:List Value}{a:Addr}(ht:P.underlying t=some (.slice e))(hi:P.info? e=some i)(hz:i.zero=some z)
  (hsize:i.size=size) (hby:i.bytes=bytes) (hown:w.ownsRow qB e size v n xs) (hl:news.length=m*size) (hnews:∀ j u,news[j]?=some u→w.cell? (a.add j)=some u) (h1:∀ u∈news,u.oneCell'=true) (hm:0<m)
  (h63:n+m≤maxLen) (hbytes:(n+m)*bytes≤140737488355328) {v':Value} {w':World} (hr:(Builtin.append_ #[t,t] ty #[v,.slice (some a) m c]).run P w=.ok v' w') :
  v'.ownBlock=v.ownBlock∨v'.ownBlock=some w.heap.size:=by
 subst hsize
 subst hby
 have hsm:n+m≤9223372036854775807:=h63
 rcases hown.2 with⟨rfl,rfl⟩ | ⟨g,cap,cur,rfl,hbg,hg,hnc,hcm,hcs,htake⟩
 ·rw[run_append_nil (P:=P) w t ty e i z ht hi hz a m c news hl hnews hm (by omega) (by rw[Nat.zero_add] at hbytes;omega)] at hr
  cases hr
  exact .inr rfl
 ·by_cases hroom:n+m≤cap
  ·rw[run_append_room (P:=P) w t ty e i ht hi g n cap cur hg a m c news hl hnews h1 hroom (by rw[hl,hcs,←Nat.add_mul];exact Nat.mul_le_mul_right _ hroom)] at hr
   cases hr
   exact .inl rfl
  ·have hx:xs.length=n*i.size:=hown.1
   rw[run_append_grow (P:=P) w t ty e i z ht hi hz ⟨g,0,none⟩ n cap xs hx (hown.cells (g:=g) rfl) a m c news hl hnews (by omega) (by omega) (growslice_fits (by omega) hbytes)] at hr
   cases hr
   exact .inr rfl
theorem pU{α:Type}{w:World}{qB E size:Nat}{enc:α→List Value}{v:Value}{xs:List α}{P:Program}{o:Oper}{a:Act}{K:Act→World→Prop}{Q:Exit→Act→World→Prop}(s x:Operand)(t:TypeId)
  (ho:o.op=.call { callee:=.builtin .append,args:=#[s,x],argTypes:=#[t,t] }) {z:Value} {bytes:Nat} (hE:dQ P t E z size bytes) (he:fB enc size)
  (hs:a.eval s=v) (hown:Own w qB E size enc v xs) (ad:Addr) (c:Nat) (y:α) (hx:a.eval x=.slice (some ad) 1 c) (hnews:∀ j u,(enc y)[j]?=some u→w.cell? (ad.add j)=some u)
  (h63:xs.length+1≤maxLen) (hbytes:(xs.length+1)*bytes≤140737488355328) (hbase:qB≤w.heap.size)
  (h:∀ a' cap' w',Own w' qB E size enc (.slice a' (xs.length+1) cap') (xs++[y])→w.grownBy w' v.ownBlock→((Value.slice a' (xs.length+1) cap').ownBlock=v.ownBlock∨(Value.slice a' (xs.length+1) cap').ownBlock=some w.heap.size)→K (a.put o.dst (.slice a' (xs.length+1) cap')) w'):Oper.wp P o a w K Q:=by
 obtain⟨i,hi,hz,hsz,hby⟩:=hE.info
 obtain⟨v',w',hr,h2,h3,_⟩:=run_append_own (P:=P) w qB t o.type E i z size bytes hE.slice hi hz hsz hby hE.Hl hE.pos v xs.length (xs.flatMap enc) (hown.rV he) ad 1 c (enc y) (by rw[he.len,Nat.one_mul]) hnews (he.one y) h63 hbytes hbase
 have hb:=zV (c:=c) hE.slice hi hz hsz hby (hown.rV he) (by rw[he.len,Nat.one_mul]) hnews (he.one y) (Nat.succ_pos 0) h63 hbytes hr
 have hr':Own w' qB E size enc v' (xs++[y]):=by
  refine Own.ofRow ?_ he
  rw[List.length_append,List.flatMap_append]
  simpa using h2
 obtain⟨a',cap',rfl⟩:=hr'.form
 have e:(xs++[y]).length=xs.length+1:=by simp
 rw[e] at hr' hb hr
 have hk:=h a' cap' w' hr' h3 hb
 unfold Oper.wp execOp
 simp only[ho,resolve,invoke,builtin,Sem.run_bind,Sem.run_pure,Result.andThen_ok,List.map_toArray,List.map_cons,List.map_nil,hs,hx,hr]
 exact hk
theorem eP{α:Type}{w:World}{qB E size:Nat}{enc:α→List Value}{v:Value}{xs:List α}{P:Program}{ops:Array Oper}{rest:List Oper}{o:Oper}{a:Act}{Q:Exit→Act→World→Prop}(hgd:o.guard=none)(s x:Operand)(t:TypeId)
  (ho:o.op=.call { callee:=.builtin .append,args:=#[s,x],argTypes:=#[t,t] }) {z:Value} {bytes:Nat} (hE:dQ P t E z size bytes) (he:fB enc size)
  (hs:a.eval s=v) (hown:Own w qB E size enc v xs) (ad:Addr) (c:Nat) (y:α) (hx:a.eval x=.slice (some ad) 1 c) (hnews:∀ j u,(enc y)[j]?=some u→w.cell? (ad.add j)=some u)
  (h63:xs.length+1≤maxLen) (hbytes:(xs.length+1)*bytes≤140737488355328) (hbase:qB≤w.heap.size)
  (h:∀ a' cap' w',Own w' qB E size enc (.slice a' (xs.length+1) cap') (xs++[y])→w.grownBy w' v.ownBlock→((Value.slice a' (xs.length+1) cap').ownBlock=v.ownBlock∨(Value.slice a' (xs.length+1) cap').ownBlock=some w.heap.size)→wpList P ops Q rest (a.put o.dst (.slice a' (xs.length+1) cap')) w'):wpList P ops Q (o::rest) a w :=
 wpList_plain hgd fun _ hK=>pU s x t ho hE he hs hown ad c y hx hnews h63 hbytes hbase fun a' cap' w' h2 h3 h4=>hK _ _ (h a' cap' w' h2 h3 h4)
theorem Own.Hz{α:Type}{w w':World}{qB E size:Nat}{enc:α→List Value}{v:Value}{xs:List α}{row:Option Nat}(h:Own w qB E size enc v xs)(hg:w.grownBy w' row)(hne:∀ k,v.ownBlock=some k→row≠some k):Own w' qB E size enc v xs:=by
 obtain⟨a,cap,rfl,hle,hm,hh⟩:=h
 refine⟨a,cap,rfl,hle,hm,?_⟩
 rcases hh with hh | ⟨g,cur,rfl,hbg,hb,hr⟩
 ·exact .inl hh
 ·exact .inr ⟨g,cur,rfl,hbg,(hg.block g hb.lt (fun e=>hne g rfl e.symm)).trans hb,hr⟩
theorem Own.lS{α β:Type}{w w':World}{qB ajF E E2 size size2:Nat}{enc:α→List Value}{enc2:β→List Value}{v v2:Value}{xs:List α}{ys:List β}(h:Own w qB E size enc v xs)(h2:Own w ajF E2 size2 enc2 v2 ys)(hg:w.grownBy w' v2.ownBlock)(hE:E≠E2):Own w' qB E size enc v xs :=
 h.Hz hg fun k h1 h3=>by
  obtain⟨_,c1,b1⟩:=h.block k h1
  obtain⟨_,c2,b2⟩:=h2.block k h3
  exact hE (b1.lM b2)
end
section
open Go.RowKit
structure ay(r qB:Nat)(w w':World):Prop where
 low:Below r w w'
 cells:aQ (fun k=>k=r∨qB≤k) w w'
 others:KeepsOthers w w'
theorem ay.refl(r qB:Nat)(w:World):ay r qB w w:=⟨Below.refl _ _,aQ.refl _ _,KeepsOthers.refl _⟩
theorem ay.trans{r qB:Nat}{a b c:World}(h:ay r qB a b)(k:ay r qB b c):ay r qB a c:=⟨h.low.trans k.low,h.cells.trans k.cells,h.others.trans k.others⟩
theorem QS{w w':World}(h:Below w.heap.size w w'):KeepsOthers w w':=⟨h.size,fun k _ hk _=>(h.block k (Array.getElem?_eq_some_iff.1 hk).1).trans hk⟩
theorem ay.below{r qB:Nat}{w w':World}(hr:r≤w.heap.size)(h:Below w.heap.size w w'):ay r qB w w':=⟨h.mono hr,aQ.below h,QS h⟩
theorem ay.set{r qB:Nat}(w:World)(i:Nat)(v:Value):ay r qB w (w.setCell ⟨r,i,none⟩ v):=⟨(Below.refl r w).setCell (by simp) v,aQ.set w _ v (.inl rfl),KeepsOthers.setCell w _ v⟩
theorem FB{α:Type}{enc:α→List Value}{w:World}{b c size:Nat}{y:α}(h:ak w (.slice (some ⟨b,0,none⟩) 1 c) size enc [y]):∀ j u,(enc y)[j]?=some u→w.cell? ((⟨b,0,none⟩:Addr).add j)=some u:=fun j u hu=>by
 obtain⟨a,b',o,cap,hv,_,_,ha,hx⟩:=h
 obtain⟨rfl,_,_⟩:=Value.slice.inj hv
 have e:(⟨b,0,none⟩:Addr).add j=⟨b,j,none⟩:=by rw[Addr.add_lit];simp
 rcases ha with ha | ⟨ha,_⟩
 ·simp only[Option.some.injEq,Addr.mk.injEq] at ha
  obtain⟨rfl,rfl,_⟩:=ha
  have:=hx 0 (by simp) j u hu
  rw[e]
  simpa using this
 ·cases ha
theorem ay.grown{α:Type}{r qB E size:Nat}{w w':World}{enc:α→List Value}{v:Value}{xs:List α}(h:Own w qB E size enc v xs)(hg:w.grownBy w' v.ownBlock)(hr:r≤qB)(hw:r≤w.heap.size):ay r qB w w' :=
 ⟨below_grown (Below.refl _ _) h hg hr hw,aQ.grown h hg (fun _ hb=>.inr hb),KeepsOthers.Jp h hg⟩
theorem gu{b:Bool}{A B:Prop}(hb:b=true)(h:A):if b=true then A else B:=by rw[if_pos hb];exact h
end
end Go.Proofs.YtengfapcaaacaaaGreatDoor
