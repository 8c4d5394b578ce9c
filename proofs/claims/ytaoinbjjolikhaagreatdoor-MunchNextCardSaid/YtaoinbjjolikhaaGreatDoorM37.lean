/- The texts of B37, in few letters (mini.py). -/
import Derived.Test.YtaoinbjjolikhaaGreatDoorM5
set_option linter.unusedVariables false
set_option linter.unusedSimpArgs false
set_option maxRecDepth 20000
set_option maxHeartbeats 800000
namespace Go.Proofs.YtaoinbjjolikhaaGreatDoor
section
open Go.RowKit
theorem Xh(s:au)(x:Nat)(w:World)(hx:x<256) :
  Calls Tryz.prog 160 #[iP s,.int .i64 x] w (aX w (.bool (mem s x))):=by
 have hxi:=yC s (x / 64) (by omega)
 have hz:=word_lt s (x / 64)
 go_enter Tryz.func160,Tryz.ntmps160
 go_wp2
 go_ret
 exact⟨congrArg (fun b=>Ending.returned (.bool b)) ((and_one _ _ hz).trans (DZ s x).symm),by go_grown⟩
end
section
open Go.RowKit
theorem abL(L:List au)(i:Nat)(h:i<L.length)(c:Nat):vF (L.take (i+1)) c=if mem L[i] c then i else vF (L.take i) c:=by
 rw[List.take_succ_eq_append_getElem h,O1,List.length_take,Nat.min_eq_left (Nat.le_of_lt h)]
def aep(L:List au)(w wr:World)(i:Value):Prop :=
 ∃ k:Nat,k≤L.length∧i=.int .i64 k∧Box wr w.heap.size (aY fun _=>0) 22∧Box wr (w.heap.size+1) (aY (vF (L.take k))) 22∧Below w.heap.size w wr
def aer(L:List au)(k:Nat)(w wr:World)(c:Value):Prop :=
 ∃ n:Nat,n≤256∧c=.int .i64 n∧Box wr w.heap.size (aY fun _=>0) 22∧Box wr (w.heap.size+1) (aY fun d=>if d<n then vF (L.take (k+1)) d else vF (L.take k) d) 22∧Below w.heap.size w wr
theorem aes{F G:Nat→Nat}{n v:Nat}(h:v=G n):∀ d,d<256→(if d=n then v else if d<n then G d else F d)=if d<n+1 then G d else F d:=by
 intro d _
 by_cases h1:d=n
 ·subst h1;simp[h]
 ·by_cases h2:d<n
  ·simp[h1,h2,show d<n+1 by omega]
  ·simp[h1,h2,show ¬ d<n+1 by omega]
theorem aeu{F G:Nat→Nat}{n:Nat}(h:G n=F n):∀ d,d<256→(if d<n then G d else F d)=if d<n+1 then G d else F d:=by
 intro d _
 by_cases h1:d=n
 ·subst h1;simp[h]
 ·by_cases h2:d<n
  ·simp[h2,show d<n+1 by omega]
  ·simp[h2,show ¬ d<n+1 by omega]
theorem VO(a:Option Addr)(cap:Nat)(L:List au)(w:World)(h:ak w (.slice a L.length cap) 4 encS L)(hL:L.length≤256) :
  Calls Tryz.prog 124 #[.slice a L.length cap] w (aX w (.tuple #[.agg (aY (vF L)),.int .i64 (L.length:Nat)])):=by
 obtain⟨b,o,hlen,hcap,hcap',ha,hbl,hcell⟩:=h.sets
 clear hlen h hbl
 have HC:=ah hcell
 clear hcell
 have hz:=kC
 have hbd:(Program.built Tryz.prog 22 [])=some (aY fun _=>0):=by kernel_rfl
 go_enter Tryz.func124,Tryz.ntmps124
 go_wp2_with (refine fC rfl 22 (.tmp 4) (.tmp 7) rfl _ _ rfl rfl (by simp) (aZ _) (kY _ _) (gY _) ?_)
 go_loopw [5] (fun i wr=>aep L w wr i) (fun i _=>L.length - (intOf i).toNat)
 case atStart=>exact⟨0,Nat.zero_le _,rfl,(Box.new' rfl _ _).alloc _,Box.new' (World.size_alloc _ _).symm _ _,by go_grown⟩
 case round =>
  obtain⟨k,hk,rfl,hb0,hb1,hB⟩:=hrel
  by_cases hlt:k<L.length
  ·obtain rfl:=ha k hlt
   have hd:decide ((k:Int)<(L.length:Int))=true:=by simp;omega
   go_wp2
   clear hd
   go_loopw [6] (fun c w2=>aer L k w w2 c) (fun c _=>256 - (intOf c).toNat)
   case atStart=>exact⟨0,Nat.zero_le _,rfl,hb0,by rw[dU (g:=vF (L.take k)) (fun i _=>by simp)];exact hb1,hB⟩
   case round =>
    obtain⟨n,hn,rfl,hc0,hc1,hB2⟩:=hrel
    by_cases hn2:n<256
    ·obtain⟨c0,c1,c2,c3⟩:=HC.out k hlt _ hB2
     have hnt:=abL L k hlt n
     have HN:=ah hnt
     have hwr:=nK k (by omega)
     clear hnt
     cases hm:mem L[k] n with
     | true =>
      have HM:=ah hm
      go_wp2_with (go_at_call 160;go_must (refine(Xh _ _ _ hn2).mono ?_;rintro e w3 ⟨rfl,hB3⟩;rw[HM.out];have hB4:=hB2.trans (hB3.mono hB2.size);have hx0:=hc0.kept hB3;have hx1:=hc1.kept hB3;have hf:=hx1.free n;have hc:=(hx1.cell n).trans (dV _ n hn2)))
      go_roundw
      case rel =>
       refine⟨n+1,hn2,by go_num,hx0.other _ _ (by simp),?_,by go_grown⟩
       have:=hx1.set n (.int .u8 (k:Nat))
       rw[uH,dU (aes (by rw[HN.out,HM.out];rfl))] at this
       exact this
      case measure=>simp[intOf];omega
     | false =>
      have HM:=ah hm
      go_wp2_with (go_at_call 160;go_must (refine(Xh _ _ _ hn2).mono ?_;rintro e w3 ⟨rfl,hB3⟩;rw[HM.out];have hB4:=hB2.trans (hB3.mono hB2.size);have hx0:=hc0.kept hB3;have hx1:=hc1.kept hB3))
      go_roundw
      case rel =>
       refine⟨n+1,hn2,by go_num,hx0,?_,hB4⟩
       rw[dU (aeu (by rw[HN.out,HM.out];rfl))] at hx1
       exact hx1
      case measure=>simp[intOf];omega
    ·obtain rfl:n=256:=by omega
     go_wp2
     go_roundw
     case rel =>
      refine⟨k+1,hlt,by go_num,hc0,?_,hB2⟩
      rw[dU (g:=vF (L.take (k+1))) (fun i hi=>if_pos hi)] at hc1
      exact hc1
     case measure=>simp[intOf];omega
  ·obtain rfl:k=L.length:=by omega
   rw[List.take_length] at hb1
   go_wp2_with (first | (refine wpList_load_row rfl 22 (.tmp 4) rfl _ rfl _ _ _ _ hb1 Tryz.underlying22 rfl (aZ _) ?_) | (refine wpList_store_row rfl 22 (.tmp 2) (.tmp 28) rfl w.heap.size _ rfl rfl _ _ hb0 (aZ _) (kY _ _) (gY _) ?_))
   exact fZ Tryz.results124 rfl rfl (hb0.setRow _) Tryz.underlying22 rfl (aZ _) rfl ⟨rfl,below_setRow hB (Nat.le_refl _) _⟩
end
section
open Go.RowKit
theorem NI(f:Nat→Nat)(hf:∀ b,f b<256)(w:World) :
  Calls Tryz.prog 85 #[.agg (aY f)] w (aX w (.tuple #[.agg (aY (bD (bg (bJ f)))),.int .i64 (iQ (bg (bJ f)):Nat)])):=by
 have hz:=kC
 have E:=oO (bJ f)
 obtain⟨L,hP,e1,e2⟩:∃ L:List au,(∀ wx,Calls Tryz.prog 125 #[.agg (aY f)] wx (jh wx 99 4 encS L))∧aY (vF L)=aY (bD (bg (bJ f)))∧L.length=iQ (bg (bJ f)):=by
  refine⟨_,fun wx=>Xz f hf wx,dU fun c hc=>?_,by rw[List.length_map,nM]⟩
  have:=QX E hc _ (Nat.le_refl _)
  rw[List.take_length] at this
  rw[this,if_pos];have:=Ic E.refl hc;rwa[nM] at this
 have H1:=ah e1
 have H2:=ah e2
 have HP:=ah hP
 have hle:=Ie (bg (bJ f))
 clear e1 e2 hP
 go_enter Tryz.func85,Tryz.ntmps85
 go_wp2_with (first | (refine wpList_load_row rfl 22 (.tmp 1) rfl _ rfl _ _ _ _ ((Box.new _ _ _).alloc _) Tryz.underlying22 rfl (aZ _) ?_) | (refine wpList_store_row rfl 22 (.tmp 2) (.tmp 7) rfl (w.heap.size+1) _ rfl rfl _ _ hx0 (aZ _) (kY _ _) (gY _) ?_) | (go_at_call 125;go_must (refine(HP.out _).mono ?_;rintro e w1 ⟨a1,cap1,rfl,hown,hB⟩)) | (go_at_call 124;go_must (refine(VO a1 cap1 _ _ (hown.slice xu) (by rw[H2.out];exact hle)).mono ?_;rintro e w2 ⟨rfl,hB2⟩;rw[H1.out,H2.out];have hx0:=((Box.new' (w:=w.alloc (.cells (aY f) 22)) (b:=w.heap.size+1) (by simp) (aY fun _=>0) 22).kept hB).kept hB2)))
 have hB3:=((((Below.refl w.heap.size w).alloc (Nat.le_refl _) (.cells (aY f) 22)).alloc (by simp) (.cells (aY fun _=>0) 22)).trans (hB.mono (by simp;omega))).trans (hB2.mono (by have:=hB.size;simp at this;omega))
 exact fZ Tryz.results85 rfl rfl (hx0.setRow _) Tryz.underlying22 rfl (aZ _) rfl ⟨rfl,below_setRow hB3 (by omega) _⟩
theorem VP(f:Nat→Nat)(hf:∀ b,f b<256)(n:Int)(w:World) :
  Calls Tryz.prog 57 #[.agg (aY f),.int .i64 n] w (aX w (.bool (kJ (bD (bg (bJ f))) f&&((iQ (bg (bJ f)):Nat)==n)))):=by
 have hz:=kC
 have hq:=OZ (P:=Tryz.prog) (t:=22) (e:=5) Tryz.underlying22 Tryz.underlying5 (by kernel_rfl) (bD (bg (bJ f))) f
 have hsz:∀ w1:World,Below (w.alloc (.cells (aY f) 22)).heap.size (w.alloc (.cells (aY f) 22)) w1→Below w.heap.size w (w1.alloc (.cells (aY (bD (bg (bJ f)))) 22)):=fun w1 hB=>(((Below.refl w.heap.size w).alloc (Nat.le_refl _) _).trans (hB.mono (by go_size))).alloc (by have:=hB.size;simp at this;omega) _
 have HS:=ah hsz
 have HF:=ah hf
 clear hsz hf
 cases hs:kJ (bD (bg (bJ f))) f with
 | true =>
  rw[hs] at hq
  clear hs
  go_enter Tryz.func57,Tryz.ntmps57
  go_wp2_with (first | (refine wpList_load_row rfl 22 (.tmp 2) rfl _ rfl _ _ _ _ (Box.new _ _ _) Tryz.underlying22 rfl (aZ _) ?_) | (refine fC rfl 22 (.tmp 5) (.tmp 10) rfl _ _ rfl rfl rfl (aZ _) (kY _ _) (gY _) ?_) | (go_at_call 85;go_must (refine(NI f HF.out _).mono ?_;rintro e w1 ⟨rfl,hB⟩;have hx0:=(Box.new w (aY f) 22).kept hB)) | (refine wpList_load_row rfl 22 (.tmp 5) rfl _ rfl _ _ _ _ (Box.new _ _ _) Tryz.underlying22 rfl (aZ _) ?_) | (refine wpList_load_row rfl 22 (.tmp 2) rfl _ rfl _ _ _ _ (hx0.alloc _) Tryz.underlying22 rfl (aZ _) ?_))
  go_ret
  exact⟨rfl,HS.out _ hB⟩
 | false =>
  rw[hs] at hq
  clear hs
  go_enter Tryz.func57,Tryz.ntmps57
  go_wp2_with (first | (refine wpList_load_row rfl 22 (.tmp 2) rfl _ rfl _ _ _ _ (Box.new _ _ _) Tryz.underlying22 rfl (aZ _) ?_) | (refine fC rfl 22 (.tmp 5) (.tmp 10) rfl _ _ rfl rfl rfl (aZ _) (kY _ _) (gY _) ?_) | (go_at_call 85;go_must (refine(NI f HF.out _).mono ?_;rintro e w1 ⟨rfl,hB⟩;have hx0:=(Box.new w (aY f) 22).kept hB)) | (refine wpList_load_row rfl 22 (.tmp 5) rfl _ rfl _ _ _ _ (Box.new _ _ _) Tryz.underlying22 rfl (aZ _) ?_) | (refine wpList_load_row rfl 22 (.tmp 2) rfl _ rfl _ _ _ _ (hx0.alloc _) Tryz.underlying22 rfl (aZ _) ?_))
  go_ret
  exact⟨rfl,HS.out _ hB⟩
end
end Go.Proofs.YtaoinbjjolikhaaGreatDoor
