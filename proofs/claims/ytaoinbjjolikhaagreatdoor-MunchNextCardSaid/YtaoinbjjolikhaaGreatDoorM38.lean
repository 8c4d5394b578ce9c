/- The texts of B38, in few letters (mini.py). -/
import Derived.Test.YtaoinbjjolikhaaGreatDoorM37
import Derived.Test.YtaoinbjjolikhaaGreatDoorM24
set_option linter.unusedVariables false
set_option linter.unusedSimpArgs false
set_option maxHeartbeats 3200000
set_option maxRecDepth 20000
namespace Go.Proofs.YtaoinbjjolikhaaGreatDoor
section
open Go.RowKit
theorem UR(x:Nat)(h:iq x=true):qj x=false:=by
 unfold iq at h
 unfold qj
 rw[Bool.eq_false_iff]
 simp at h ⊢
 omega
theorem abM(x:Nat)(first:Bool)(w:World)(hx:x<256):Calls Tryz.prog 86 #[.int .u8 x,.bool first] w (aX w (.bool (ru x first))):=by
 cases hd:iq x with
 | true =>
  have hl:=UR x hd
  have e:ru x first=!first:=by unfold ru;rw[hl,hd];simp
  rw[e]
  unfold iq at hd
  simp only[Bool.and_eq_true,decide_eq_true_eq] at hd
  obtain⟨d1,d2⟩:=hd
  have e1:decide (48≤(x:Int))=true:=by simp;omega
  have e2:decide ((x:Int)≤57)=true:=by simp;omega
  clear e hl
  go_enter Tryz.func86,Tryz.ntmps86
  go_wp2
  go_ret
  exact⟨rfl,Below.refl _ _⟩
 | false =>
  have e:ru x first=qj x:=by unfold ru;rw[hd];simp
  rw[e]
  unfold iq at hd
  simp only[Bool.and_eq_false_iff,decide_eq_false_iff_not] at hd
  have hd':x<48∨57<x:=by omega
  clear e hd
  unfold qj
  by_cases a1:97≤x
  ·have e1:decide (97≤(x:Int))=true:=by simp;omega
   have e2:decide (48≤(x:Int))=true:=by simp;omega
   have e3:decide ((x:Int)≤57)=false:=by simp;omega
   by_cases a2:x≤122
   ·have e4:decide ((x:Int)≤122)=true:=by simp;omega
    clear hd'
    go_enter Tryz.func86,Tryz.ntmps86
    go_wp2
    go_ret
    exact uD (by rw[Bool.eq_iff_iff];simp;omega)
   ·have e4:decide ((x:Int)≤122)=false:=by simp;omega
    have e5:decide (65≤(x:Int))=true:=by simp;omega
    have e6:decide ((x:Int)≤90)=false:=by simp;omega
    clear hd'
    go_enter Tryz.func86,Tryz.ntmps86
    go_wp2
    go_ret
    exact uD (by rw[Bool.eq_iff_iff];simp;omega)
  ·have e1:decide (97≤(x:Int))=false:=by simp;omega
   have key:∀ b:Bool,b=(decide (48≤(x:Int))&&decide ((x:Int)≤57))→b=false:=fun b hb=>by rw[hb,Bool.eq_false_iff];simp;omega
   clear key
   by_cases a2:65≤x
   ·have e2:decide (48≤(x:Int))=true:=by simp;omega
    have e3:decide ((x:Int)≤57)=false:=by simp;omega
    have e5:decide (65≤(x:Int))=true:=by simp;omega
    by_cases a3:x≤90
    ·have e6:decide ((x:Int)≤90)=true:=by simp;omega
     clear hd'
     go_enter Tryz.func86,Tryz.ntmps86
     go_wp2
     go_ret
     exact uD (by rw[Bool.eq_iff_iff];simp;omega)
    ·have e6:decide ((x:Int)≤90)=false:=by simp;omega
     clear hd'
     go_enter Tryz.func86,Tryz.ntmps86
     go_wp2
     go_ret
     exact uD (by rw[Bool.eq_iff_iff];simp;omega)
   ·have e5:decide (65≤(x:Int))=false:=by simp;omega
    by_cases a3:48≤x
    ·have e2:decide (48≤(x:Int))=true:=by simp;omega
     have e3:decide ((x:Int)≤57)=false:=by simp;omega
     clear hd'
     go_enter Tryz.func86,Tryz.ntmps86
     go_wp2
     go_ret
     exact uD (by rw[Bool.eq_iff_iff];simp;omega)
    ·have e2:decide (48≤(x:Int))=false:=by simp;omega
     clear hd'
     go_enter Tryz.func86,Tryz.ntmps86
     go_wp2
     go_ret
     exact uD (by rw[Bool.eq_iff_iff];simp;omega)
def uz:Bool→List UInt8→Bool
 | _,[]=>true
 | first,c::r=>ru c.toNat first&&uz false r
theorem Jv:∀ (b:Bool) (l:List UInt8),(runFrom b l==l.length)=uz b l
 | _,[]=>by simp[runFrom,uz]
 | b,c::r=>by
  have ih:=Jv false r
  rw[runFrom,uz]
  cases ru c.toNat b with
  | true=>rw[if_pos rfl,Bool.true_and,←ih];simp[Bool.beq_eq_decide_eq]
  | false=>rw[if_neg (by simp)];simp
theorem abN(s:List UInt8):qJ s=(uz true s&&(decide (1≤s.length)&&decide (s.length≤32))):=by
 unfold qJ
 rw[Jv]
 cases s with
 | nil=>simp
 | cons a r=>cases h:uz true (a::r) <;> simp
theorem Y4(s:List UInt8)(w:World)(hs:s.length≤9223372036854775807):Calls Tryz.prog 58 #[sv s] w (aX w (.bool (qJ s))):=by
 obtain⟨n,hn⟩:∃ n,s.length=n:=⟨_,rfl⟩
 have hix:∀ (k:Nat) (h:k<(⟨s.toArray⟩:ByteArray).size) (h2:k<s.length),(⟨s.toArray⟩:ByteArray)[k]=s[k]:=fun k h h2=>rfl
 have e:=abN s
 rw[hn] at e
 have hsz:(⟨s.toArray⟩:ByteArray).size=n:=by rw[Oh,hn]
 have HE:=ah e
 have Lr:=ah hix
 have HN:=ah hn
 rw[hn] at hs
 clear e hix
 go_enter Tryz.func58,Tryz.ntmps58
 go_wp2
 go_loopw [3] (fun i wr=>∃ k:Nat,k≤n∧i=.int .i64 k∧uz true s=uz (k==0) (s.drop k)∧Below w.heap.size w wr) (fun i _=>n - (intOf i).toNat)
 case atStart=>exact⟨0,Nat.zero_le _,rfl,rfl,Below.refl _ _⟩
 case round =>
  obtain⟨k,hk,rfl,ha,hB⟩:=hrel
  by_cases hlt:k<n
  ·have hk2:k<s.length:=by rw[HN.out];exact hlt
   rw[drop_at s k hk2,uz] at ha
   have hi:=fun h=>Lr.out k h hk2
   have hm:=fun w=>abM s[k].toNat (k==0) w s[k].toNat_lt
   have hk0:((k:Int)==0)=(k==0):=by rw[Bool.eq_iff_iff];simp
   generalize s[k]=c at *
   generalize hf:(k==0)=f at *
   cases wQ:ru c.toNat f with
   | true =>
    rw[wQ] at hm
    rw[wQ,Bool.true_and] at ha
    have HM:=ah hm
    have HA:=ah ha
    clear hm ha wQ hf
    go_wp2_with (go_at_call 86;go_must (refine(HM.out _).mono ?_;rintro e w1 ⟨rfl,hB1⟩))
    go_roundw
    case rel=>exact⟨k+1,hlt,by go_num,by rw[HA.out];rfl,hB.trans (hB1.mono hB.size)⟩
    case measure=>simp[intOf];omega
   | false =>
    rw[wQ] at hm
    rw[wQ,Bool.false_and] at ha
    have HM:=ah hm
    have HA:=ah ha
    clear hm ha wQ hf
    go_wp2_with (go_at_call 86;go_must (refine(HM.out _).mono ?_;rintro e w1 ⟨rfl,hB1⟩))
    go_ret
    exact⟨by rw[HE.out,HA.out];rfl,hB.trans (hB1.mono hB.size)⟩
  ·obtain rfl:k=n:=by omega
   rw[List.drop_eq_nil_of_le (by rw[HN.out];exact Nat.le_refl _),uz] at ha
   have HA:=ah ha
   clear ha
   by_cases h1:1≤k
   ·have e1:decide (1≤(k:Int))=true:=by simp;omega
    go_wp2
    go_ret
    exact⟨by rw[HE.out,HA.out];exact XO (by rw[Bool.eq_iff_iff];simp;omega),hB⟩
   ·have e1:decide (1≤(k:Int))=false:=by simp;omega
    go_wp2
    go_ret
    exact⟨by rw[HE.out,HA.out];exact XO (by rw[Bool.eq_iff_iff];simp;omega),hB⟩
end
section
open Go.RowKit
theorem NJ{D:aT}:∀ (w:List UInt8) {s:Nat},jJ D s w=none→∀ m,0<m→m≤w.length→labS D (dH D s (w.take m))=0
 | [],_,_,m,h1,h2=>by simp at h2;omega
 | b::w,s,h,m,h1,h2=>by
  rw[jJ] at h
  cases hb:jJ D (kM D s b) w with
  | some r=>rw[hb] at h;simp at h
  | none =>
   rw[hb] at h
   obtain⟨m,rfl⟩:∃ j,m=j+1:=⟨m - 1,by omega⟩
   rw[List.take_succ_cons,yM]
   rw[List.length_cons] at h2
   cases m with
   | zero =>
    dsimp only at h
    by_cases h0:labS D (kM D s b)=0
    ·exact h0
    ·rw[if_neg h0] at h;simp at h
   | succ m=>exact NJ w hb (m+1) (by omega) (by omega)
theorem aev{D:aT}{s:Nat}{w:List UInt8}{k:Int}{n:Nat}(h0:0<n)(h1:n≤w.length)(h2:labS D (dH D s (w.take n))=k)(hk:k≠0)(h3:∀ m,n<m→m≤w.length→labS D (dH D s (w.take m))=0):jJ D s w=some (k,n):=by
 cases hb:jJ D s w with
 | none=>exact absurd (h2▸NJ w hb n h0 h1) hk
 | some r =>
  obtain⟨k',n'⟩:=r
  obtain⟨g1,g2,g3,g4,g5⟩:=zL w hb
  rcases Nat.lt_trichotomy n n' with h | rfl | h
  ·exact absurd (h3 n' h g2▸g4).symm g3
  ·rw[←g4,h2]
  ·exact absurd (g5 n h h1▸h2).symm hk
theorem abO{D:aT}{s:Nat}{w:List UInt8}(h:∀ m,0<m→m≤w.length→labS D (dH D s (w.take m))=0):jJ D s w=none:=by
 cases hb:jJ D s w with
 | none=>rfl
 | some r =>
  obtain⟨k',n'⟩:=r
  obtain⟨g1,g2,g3,g4,_⟩:=zL w hb
  exact absurd (h n' g1 g2▸g4).symm g3
theorem agG{D:aT}{w:List UInt8}{at_:Nat}{k:Int}{e:Nat}(h0:at_<e)(h1:e≤w.length)(h2:labS D (dH D 0 ((w.drop at_).take (e - at_)))=k)(hk:k≠0)(h3:∀ m,e<m→m≤w.length→labS D (dH D 0 ((w.drop at_).take (m - at_)))=0):kU D w at_=some (k,e):=by
 unfold kU
 rw[aev (n:=e - at_) (by omega) (by rw[List.length_drop];omega) h2 hk (fun m hm hl=>by
  have:=h3 (at_+m) (by omega) (by rw[List.length_drop] at hl;omega)
  rwa[show at_+m - at_=m by omega] at this)]
 rw[Option.map_some,show at_+(e - at_)=e by omega]
theorem aew{D:aT}{w:List UInt8}{at_:Nat}(h:∀ m,at_<m→m≤w.length→labS D (dH D 0 ((w.drop at_).take (m - at_)))=0):kU D w at_=none:=by
 unfold kU
 rw[abO fun m h1 h2=>by
  have:=h (at_+m) (by omega) (by rw[List.length_drop] at h2;omega)
  rwa[show at_+m - at_=m by omega] at this]
 rfl
end
section
open Go.RowKit
theorem aex(l:List (List UInt8))(s:List UInt8)(q:Nat)(h:q<l.length):(l.take (q+1)).contains s=((l.take q).contains s||(l[q]==s)):=by
 rw[List.take_succ_eq_append_getElem h,Bool.eq_iff_iff,Bool.or_eq_true,List.contains_iff_mem,List.contains_iff_mem,List.mem_append,List.mem_singleton,beq_iff_eq]
 exact or_congr Iff.rfl eq_comm
theorem abP(l:List (List UInt8))(s:List UInt8)(q k:Nat)(hq:q<k)(h:q<l.length)(e:l[q]=s):(l.take k).contains s=true:=by
 rw[List.contains_iff_mem]
 have:(l.take k)[q]'(by simp;omega)=s:=by simpa using e
 exact this▸List.getElem_mem _
theorem Dl(V:aG)(D:aT)(w:World)(h:dS w V D)(hof:∀ b,V.of b<256)(hl:∀ x∈D.names,x.length≤9223372036854775807):Calls Tryz.prog 39 #[.agg V.cells] w (aX w (.bool (fH D))):=by
 obtain⟨of,wd,na,nn,nc,la,n,lc,ma,mn,mc⟩:=V
 obtain⟨of',wd',nx,lb,nm⟩:=D
 have hst:=Jf ⟨of',wd',nx,lb,nm⟩
 have hfa:=GH ⟨of',wd',nx,lb,nm⟩
 obtain⟨h0,h1,h3,h4,rows,h5,h6,h7⟩:=h
 dsimp only at *
 subst h0
 subst h1
 obtain⟨b5,o5,e5,c5,Tz,a5,k5⟩:=h5.dG
 obtain⟨b3,o3,e3,c3,c3',a3,k3⟩:=h3.dG
 obtain⟨b4,o4,e4,c4,c4',a4,k4⟩:=h4.dG
 have hnb:n≤9223372036854775807:=by omega
 have CZ:nn≤9223372036854775807:=by omega
 have hmb:mn≤9223372036854775807:=by omega
 have hpr:=fun w1=>VP of hof wd w1
 have hr:fH ⟨of,wd,nx,lb,nm⟩=((decide (1≤n)&&(decide (n≤65536)&&decide (nn=n)))&&((kJ (bD (bg (bJ of))) of&&((iQ (bg (bJ of)):Nat)==wd))&&((decide (mn≤64)&&qy nm mn)&&kE ⟨of,wd,nx,lb,nm⟩ nx.length))):=by
  rw[e3,e4,show nn=nx.length by omega];rfl
 rw[hr]
 have WH:=ah hpr
 clear hpr hr h3 h4 h5 hof
 generalize hp:(kJ (bD (bg (bJ of))) of&&((iQ (bg (bJ of)):Nat)==wd))=p at *
 have hbx:=Box.new w (aG.cells ⟨of,wd,na,nn,nc,la,n,lc,ma,mn,mc⟩) 27
 have hB0:=aj w (.cells (aG.cells ⟨of,wd,na,nn,nc,la,n,lc,ma,mn,mc⟩) 27)
 obtain⟨x0,x1,x2,x3⟩:=hbx.mg
 dsimp only at x0 x1 x2 x3
 have HH:=ah (And.intro h6 h7)
 have HST:=ah hst
 have AU:=ah hfa
 have HL:=ah hl
 have HE:=ah (And.intro e5 (And.intro e3 e4))
 have HA:=ah (And.intro a5 (And.intro a3 a4))
 have HK:=ah (And.intro k5 (And.intro k3 k4))
 clear h6 h7 hst hfa hl e5 e3 e4 a5 a3 a4 k5 k3 k4 hp
 by_cases b1:n<1
 ·have e1:decide ((n:Int)<1)=true:=by simp;omega
  have q:(decide (1≤n)&&(decide (n≤65536)&&decide (nn=n)))=false:=by simp;omega
  rw[q,Bool.false_and]
  clear b1 q
  go_enter Tryz.func39,Tryz.ntmps39
  go_wp2
  go_ret
  exact⟨rfl,hB0⟩
 ·have e1:decide ((n:Int)<1)=false:=by simp;omega
  by_cases b2:65536<n
  ·have e2:decide (65536<(n:Int))=true:=by simp;omega
   have q:(decide (1≤n)&&(decide (n≤65536)&&decide (nn=n)))=false:=by simp;omega
   rw[q,Bool.false_and]
   clear b1 b2 q
   go_enter Tryz.func39,Tryz.ntmps39
   go_wp2
   go_ret
   exact⟨rfl,hB0⟩
  ·have e2:decide (65536<(n:Int))=false:=by simp;omega
   by_cases b3:nn=n
   ·have q:(decide (1≤n)&&(decide (n≤65536)&&decide (nn=n)))=true:=by simp;omega
    rw[q,Bool.true_and]
    have f3:((nn:Int) != (n:Int))=false:=by simp[b3]
    have f3':(nn != n)=false:=by simp[b3]
    by_cases b4:64<mn
    ·have e4:decide (64<(mn:Int))=true:=by simp;omega
     have q2:decide (mn≤64)=false:=by simp;omega
     rw[q2,Bool.false_and,Bool.false_and,Bool.and_false]
     clear b1 b2 b4 q q2 b3
     go_enter Tryz.func39,Tryz.ntmps39
     go_wp2
     go_ret
     exact⟨rfl,hB0⟩
    ·have e4:decide (64<(mn:Int))=false:=by simp;omega
     have q2:decide (mn≤64)=true:=by simp;omega
     rw[q2,Bool.true_and]
     clear q q2 b1 b2 b4
     cases p with
     | false =>
      rw[Bool.false_and]
      clear b3
      go_enter Tryz.func39,Tryz.ntmps39
      go_wp2_with (first | (refine oK (by rfl) 22 _ rfl w.heap.size rfl hbx Tryz.underlying22 rfl (aZ _) ?_) | (go_at_call 57;go_must (refine(WH.out _).mono ?_;rintro e w1 ⟨rfl,hB1⟩)))
      go_ret
      exact⟨rfl,hB0.trans (hB1.mono (by simp))⟩
     | true =>
      rw[Bool.true_and]
      obtain rfl:nn=n:=b3
      clear f3 f3'
      go_enter Tryz.func39,Tryz.ntmps39
      go_wp2_with (first | (refine oK (by rfl) 22 _ rfl w.heap.size rfl hbx Tryz.underlying22 rfl (aZ _) ?_) | (go_at_call 57;go_must (refine(WH.out _).mono ?_;rintro e w1 ⟨rfl,hB1⟩;have dJ:=hbx.kept hB1;have hB1:=hB0.trans (hB1.mono (by simp));clear hB0 hbx x0 x1 x2 x3)))
      go_loopw [4] (fun i wr=>∃ k:Nat,k≤mn∧i=.int .i64 k∧qy nm k=true∧Box wr w.heap.size (aG.cells ⟨of,wd,na,nn,nc,la,nn,lc,ma,mn,mc⟩) 27∧Below w.heap.size w wr) (fun i _=>mn - (intOf i).toNat)
      case atStart=>exact⟨0,Nat.zero_le _,rfl,rfl,dJ,hB1⟩
      case round =>
       clear dJ hB1
       obtain⟨k,hk,rfl,hok,hbx,hB⟩:=hrel
       obtain⟨x0,x1,x2,x3⟩:=hbx.mg
       dsimp only at x0 x1 x2 x3
       by_cases hlt:k<mn
       ·have hk2:k<nm.length:=by rw[←HE.out.2.2];exact hlt
        obtain rfl:=HA.out.2.2 k hk2
        have c4:=HK.out.2.2 k hk2 wr hB
        have hnm:=fun w=>Y4 nm[k] w (HL.out _ (List.getElem_mem hk2))
        have hnx:nameAt nm k=(qJ nm[k]&&!((nm.take k).contains nm[k])):=by
         unfold nameAt;rw[List.getD_eq_getElem?_getD,List.getElem?_eq_getElem hk2];rfl
        have hsucc:=Gw nm k
        rw[hok,Bool.true_and] at hsucc
        have hfalse:=E5 nm k mn hlt
        generalize hs:nm[k]=s at *
        have uU:=ah hnm
        have Hq:=ah hnx
        have EW:=ah hsucc
        have uT:=ah hfalse
        have HS:=ah hs
        have hk0:(0:Int)≤(k:Int):=by omega
        have hkm:(k:Int)<(mn:Int):=by omega
        clear hnm hnx hsucc hfalse hok hs
        cases hn:qJ s with
        | false =>
         have hx:nameAt nm k=false:=by rw[Hq.out,hn];rfl
         rw[hn] at uU
         have HX:=ah hx
         clear hx hn
         go_wp2_with (go_at_call 58;go_must (refine(uU.out _).mono ?_;rintro e w1 ⟨rfl,hB1⟩;have hB2:=hB.trans (hB1.mono hB.size)))
         go_ret
         exact⟨by rw[uT.out HX.out];rfl,hB2⟩
        | true =>
         rw[hn] at uU
         have HX:Hid (nameAt nm k=!((nm.take k).contains s)):=ah (by rw[Hq.out,hn];rfl)
         clear hn
         go_wp2_with (go_at_call 58;go_must (refine(uU.out _).mono ?_;rintro e w1 ⟨rfl,hB1⟩;have hB2:=hB.trans (hB1.mono hB.size);have hbx2:=hbx.kept hB1))
         clear hbx hB hB1
         go_loopw [5] (fun i wr=>∃ q:Nat,q≤k∧i=.int .i64 q∧(nm.take q).contains s=false∧Box wr w.heap.size (aG.cells ⟨of,wd,na,nn,nc,la,nn,lc,some ⟨b4,o4,none⟩,mn,mc⟩) 27∧Below w.heap.size w wr) (fun i _=>k - (intOf i).toNat)
         case atStart=>exact⟨0,Nat.zero_le _,rfl,rfl,hbx2,hB2⟩
         case round =>
          clear hbx2 hB2 x0 x1 x2 x3 c4
          obtain⟨q,hq,rfl,hno,hbx,hB⟩:=hrel
          by_cases hlt2:q<k
          ·have hq2:q<nm.length:=by omega
           have ck:=HK.out.2.2 k hk2 wr hB
           have cq:=HK.out.2.2 q hq2 wr hB
           have hth:=aex nm s q hq2
           have htf:=abP nm s q k hlt2 hq2
           rw[hno,Bool.false_or] at hth
           rw[HS.out] at ck
           generalize nm[q]=r at *
           have HTH:=ah hth
           have HTF:=ah htf
           have HF:Hid (∀ v,Later wr.drew v→Box v w.heap.size (aG.cells ⟨of,wd,na,nn,nc,la,nn,lc,some ⟨b4,o4,none⟩,mn,mc⟩) 27∧v.cell? ⟨b4,o4+k,none⟩=some (sv s)∧v.cell? ⟨b4,o4+q,none⟩=some (sv r)∧Below w.heap.size w v):=ah fun v hl =>
            ⟨hbx.drew.kept hl,(Below.cell hl (World.block_lt_of_cell? wr _ ck)).trans ck,(Below.cell hl (World.block_lt_of_cell? wr _ cq)).trans cq,hB.drew.trans (Below.mono hl hB.size)⟩
           have hq0:(0:Int)≤(q:Int):=by omega
           have hqk:(q:Int)<(k:Int):=by omega
           have hqm:(q:Int)<(mn:Int):=by omega
           clear hth htf hno ck cq hbx hB
           go_wp2_with fail
           refine aA (R:=Later) 11 (by kernel_rfl) ?_
           refine pl [0,1,2,3,4,5,6,7,8,9,10] ?_
           repeat
            refine dB ?_ rfl (fun w1 hl=>?_) ?_
            rotate_left
            ·obtain⟨hbx,c4,c5,_⟩:=HF.out w1 hl;obtain⟨x0,x1,x2,x3⟩:=hbx.mg;dsimp only at x0 x1 x2 x3;go_simp;try with_reducible rfl
            simp only[eA,eB,eC,Act.put,eD,eE,eF]
           refine bP ?_
           refine aI (by kernel_rfl) (fun w1 hl=>?_) _
           have lZ:=(HF.out _ hl).2.2.2
           have JZ:=(HF.out _ hl).1
           clear hl
           cases hrs:r==s with
           | true =>
            have hr2:r=s:=by simpa using hrs
            have hx:nameAt nm k=false:=by rw[HX.out,HTF.out hr2];rfl
            have wK:=ah hx
            clear hx hr2
            go_wp2
            go_ret
            exact⟨by rw[uT.out wK.out];rfl,lZ⟩
           | false =>
            have wK:=ah hrs
            go_wp2
            go_roundw
            case rel=>exact⟨q+1,hlt2,by go_num,by rw[HTH.out,wK.out],JZ,lZ⟩
            case measure=>simp[intOf];omega
          ·obtain rfl:q=k:=by omega
           have hx:nameAt nm q=true:=by rw[HX.out,hno];rfl
           have wK:=ah hx
           clear hno hx
           go_wp2
           go_roundw
           case rel=>exact⟨q+1,hlt,by go_num,by rw[EW.out,wK.out],hbx,hB⟩
           case measure=>simp[intOf];omega
       ·obtain rfl:k=mn:=by omega
        have hok0:=hok
        clear hok x0 x1 x2 x3
        have TA:kE ⟨of,wd,nx,lb,nm⟩ 0=true:=rfl
        have hlen:nx.length=nn:=by have:=HE.out.1;have:=HH.out.1;omega
        have HN:=ah (And.intro hok0 hlen)
        have hat:=fun q=>@Tv of wd nx lb nm nn k HE.out.2.1 HE.out.2.2 q
        generalize kE ⟨of,wd,nx,lb,nm⟩=rt at *
        generalize vX ⟨of,wd,nx,lb,nm⟩=ro at *
        have HAT:=ah hat
        obtain⟨x0,x1,x2,x3⟩:=hbx.mg
        dsimp only at x0 x1 x2 x3
        clear hat
        go_wp2
        go_loopw [6] (fun i wr=>∃ q:Nat,q≤nn∧i=.int .i64 q∧rt q=true∧Box wr w.heap.size (aG.cells ⟨of,wd,na,nn,nc,la,nn,lc,ma,k,mc⟩) 27∧Below w.heap.size w wr) (fun i _=>nn - (intOf i).toNat)
        case atStart=>exact⟨0,Nat.zero_le _,rfl,TA,hbx,hB⟩
        case round =>
         clear hbx hB TA x0 x1 x2 x3
         obtain⟨q,hq,rfl,hok,hbx,hB⟩:=hrel
         by_cases hlt:q<nn
         ·have hk1:q<nx.length:=by omega
          have hk2:q<lb.length:=by have:=HE.out.2.1;omega
          have hk3:q<rows.length:=by have:=HE.out.1;omega
          obtain rfl:=HA.out.1 q hk3
          obtain rfl:=HA.out.2.1 q hk2
          have c5:=HK.out.1 q hk3 wr hB
          have c3:=HK.out.2.1 q hk2 wr hB
          have hro:=HAT.out q hk1 hk2
          obtain⟨ra,rc,hr,hrs⟩:=HH.out.2 q hk3 hk1
          rw[hr] at c5
          have hsucc:=HST.out q
          rw[hok,Bool.true_and] at hsucc
          have hfalse:=AU.out q nn hlt
          have HC5:Hid (∀ v,Below w.heap.size w v→v.cell? ⟨b5,o5+q,none⟩=some (.slice ra nx[q].length rc)):=ah fun v hv=>by have:=HK.out.1 q hk3 v hv;rw[this,hr]
          generalize nx[q]=row at *
          generalize lb[q]=lab at *
          have E8:=ah hro
          have EW:=ah hsucc
          have uT:=ah hfalse
          have hk0:(0:Int)≤(q:Int):=by omega
          have hkm:(q:Int)<(nn:Int):=by omega
          clear hro hr hsucc hfalse hok hlen hok0
          have hrl:row.length≤9223372036854775807:=by obtain⟨_,_,_,h1,h2,_⟩:=hrs.dG;omega
          obtain⟨b6,o6,_,_,_,a6,k6⟩:=hrs.dG
          have hra:=fun q=>MF row nn q
          have hrz:=rowAt_all row nn
          have TB:=fun q h hp=>all_false (r:=row) (p:=fun t=>decide (0≤t)&&decide (t<(nn:Nat))) (k:=q) h hp
          obtain⟨r,hrr⟩:∃ r,row.length=r:=⟨_,rfl⟩
          rw[hrr] at hrl
          have HRR:=ah hrr
          have HRA:=ah hra
          have HRZ:=ah hrz
          have HRF:=ah TB
          have HA6:=ah a6
          have TD:=ah k6
          rw[hrr] at c5 HC5
          have xM:Hid (ro q=((decide (((r:Nat):Int)=wd)&&(decide (0≤lab)&&decide (lab≤(k:Nat))))&&row.all fun t=>decide (0≤t)&&decide (t<(nn:Nat)))):=ah (by rw[E8.out,HRR.out])
          have HF:Hid (∀ v,Later wr.drew v→Box v w.heap.size (aG.cells ⟨of,wd,some ⟨b5,o5,none⟩,nn,nc,some ⟨b3,o3,none⟩,nn,lc,ma,k,mc⟩) 27∧v.cell? ⟨b5,o5+q,none⟩=some (.slice ra r rc)∧v.cell? ⟨b3,o3+q,none⟩=some (.int .i64 lab)∧Below w.heap.size w v):=ah fun v hl =>
           ⟨hbx.drew.kept hl,(Below.cell hl (World.block_lt_of_cell? wr _ c5)).trans c5,(Below.cell hl (World.block_lt_of_cell? wr _ c3)).trans c3,hB.drew.trans (Below.mono hl hB.size)⟩
          clear hrr hra hrz TB a6 k6 E8
          clear hbx hB hrs
          have Tz:=(HF.out wr.drew (Below.refl _ _)).2.1
          have c3':=(HF.out wr.drew (Below.refl _ _)).2.2.1
          by_cases h1:(r:Int)=wd
          ·have g1:((r:Int) != wd)=false:=by simp[h1]
           by_cases h2:lab<0
           ·have g2:decide (lab<0)=true:=by simp[h2]
            go_wp2_with fail
            refine aA (R:=Later) 28 (by kernel_rfl) ?_
            refine pl [0,1,2,3,4,5,6,7,8,9,10,11,12,13,14,15,16,17] ?_
            repeat
             refine dB ?_ rfl (fun w1 hl=>?_) ?_
             rotate_left
             ·obtain⟨hbx,c5,c3,_⟩:=HF.out w1 hl;obtain⟨x0,x1,x2,x3⟩:=hbx.mg;dsimp only at x0 x1 x2 x3;go_simp;try with_reducible rfl
             simp only[eA,eB,eC,Act.put,eD,eE,eF]
            refine bP ?_
            refine dO 18 rfl ?_
            simp only[eA,eB,eC,Act.put,eD,eE,eF]
            refine dO 19 rfl ?_
            simp only[eA,eB,eC,Act.put,eD,eE,eF]
            refine dO 20 rfl ?_
            simp only[eA,eB,eC,Act.put,eD,eE,eF]
            refine dO 21 rfl ?_
            simp only[eA,eB,eC,Act.put,eD,eE,eF]
            refine dO 22 rfl ?_
            simp only[eA,eB,eC,Act.put,eD,eE,eF]
            refine dO 23 rfl ?_
            simp only[eA,eB,eC,Act.put,eD,eE,eF]
            refine dO 24 rfl ?_
            simp only[eA,eB,eC,Act.put,eD,eE,eF]
            refine dO 25 rfl ?_
            simp only[eA,eB,eC,Act.put,eD,eE,eF]
            refine dO 26 rfl ?_
            simp only[eA,eB,eC,Act.put,eD,eE,eF]
            refine jB 27 ?_ rfl (fun w1 hl=>?_) ?_
            rotate_left
            ·obtain⟨hbx,c5,c3,_⟩:=HF.out w1 hl;obtain⟨x0,x1,x2,x3⟩:=hbx.mg;dsimp only at x0 x1 x2 x3;go_simp;try with_reducible rfl
            simp only[eA,eB,eC,Act.put,eD,eE,eF]
            refine aI (by kernel_rfl) (fun w1 hl=>?_) _
            have lZ:=(HF.out _ hl).2.2.2
            go_wp2
            go_ret
            exact⟨by rw[HN.out.1,HN.out.2,uT.out (by rw[xM.out];simp;omega)];rfl,lZ⟩
           ·have g2:decide (lab<0)=false:=by simp;omega
            by_cases h3:(k:Int)<lab
            ·have g3:decide ((k:Int)<lab)=true:=by simp[h3]
             go_wp2_with fail
             refine aA (R:=Later) 28 (by kernel_rfl) ?_
             refine pl [0,1,2,3,4,5,6,7,8,9,10,11,12,13,14,15,16,17,18,19,20,21,22,23,24,25,26,27] ?_
             repeat
              refine dB ?_ rfl (fun w1 hl=>?_) ?_
              rotate_left
              ·obtain⟨hbx,c5,c3,_⟩:=HF.out w1 hl;obtain⟨x0,x1,x2,x3⟩:=hbx.mg;dsimp only at x0 x1 x2 x3;go_simp;try with_reducible rfl
              simp only[eA,eB,eC,Act.put,eD,eE,eF]
             refine bP ?_
             refine aI (by kernel_rfl) (fun w1 hl=>?_) _
             have lZ:=(HF.out _ hl).2.2.2
             go_wp2
             go_ret
             exact⟨by rw[HN.out.1,HN.out.2,uT.out (by rw[xM.out];simp;omega)];rfl,lZ⟩
            ·have g3:decide ((k:Int)<lab)=false:=by simp;omega
             have HH3:=ah (And.intro h1 (And.intro h2 h3))
             subst h1
             clear h2 h3
             go_wp2_with fail
             refine aA (R:=Later) 28 (by kernel_rfl) ?_
             refine pl [0,1,2,3,4,5,6,7,8,9,10,11,12,13,14,15,16,17,18,19,20,21,22,23,24,25,26,27] ?_
             repeat
              refine dB ?_ rfl (fun w1 hl=>?_) ?_
              rotate_left
              ·obtain⟨hbx,c5,c3,_⟩:=HF.out w1 hl;obtain⟨x0,x1,x2,x3⟩:=hbx.mg;dsimp only at x0 x1 x2 x3;go_simp;try with_reducible rfl
              simp only[eA,eB,eC,Act.put,eD,eE,eF]
             refine bP ?_
             refine aI (by kernel_rfl) (fun w1 hl=>?_) _
             have lZ:=(HF.out _ hl).2.2.2
             have JZ:=(HF.out _ hl).1
             clear hl
             go_wp2
             have hrow0:rowAt row nn 0=true:=rfl
             go_loopw [7] (fun i wr=>∃ q:Nat,q≤r∧i=.int .i64 q∧rowAt row nn q=true∧Box wr w.heap.size (aG.cells ⟨of,(r:Int),some ⟨b5,o5,none⟩,nn,nc,some ⟨b3,o3,none⟩,nn,lc,ma,k,mc⟩) 27∧Below w.heap.size w wr) (fun i _=>r - (intOf i).toNat)
             case atStart=>exact⟨0,Nat.zero_le _,rfl,hrow0,JZ,lZ⟩
             case round =>
              clear hrow0 JZ lZ c5 c3 Tz c3'
              obtain⟨z,hz,rfl,hrq,hbx,hB⟩:=hrel
              obtain⟨x0,x1,x2,x3⟩:=hbx.mg
              dsimp only at x0 x1 x2 x3
              by_cases hlt3:z<r
              ·have hq2:z<row.length:=by rw[HRR.out];exact hlt3
               obtain rfl:=HA6.out z hq2
               have c6:=TD.out z hq2 wr hB
               have c5:=HC5.out wr hB
               have hra:=HRA.out z hq2
               have hrf:=HRF.out z hq2
               rw[hrq,Bool.true_and] at hra
               generalize row[z]=tt at *
               have adl:=ah hra
               have TF:=ah hrf
               have hq0:(0:Int)≤(z:Int):=by omega
               have hqm:(z:Int)<(r:Int):=by omega
               clear hra hrf hrq
               by_cases t1:tt<0
               ·have e4:decide (tt<0)=true:=by simp[t1]
                go_wp2
                go_ret
                exact⟨by rw[HN.out.1,HN.out.2,uT.out (by rw[xM.out,TF.out (by simp;omega),Bool.and_false])];rfl,hB⟩
               ·have e4:decide (tt<0)=false:=by simp;omega
                by_cases t2:(nn:Int)≤tt
                ·have e5:decide ((nn:Int)≤tt)=true:=by simp[t2]
                 go_wp2
                 go_ret
                 exact⟨by rw[HN.out.1,HN.out.2,uT.out (by rw[xM.out,TF.out (by simp;omega),Bool.and_false])];rfl,hB⟩
                ·have e5:decide ((nn:Int)≤tt)=false:=by simp;omega
                 go_wp2
                 go_roundw
                 case rel=>exact⟨z+1,hlt3,by go_num,by rw[adl.out];simp;omega,hbx,hB⟩
                 case measure=>simp[intOf];omega
              ·obtain rfl:z=r:=by omega
               have hall:(row.all fun t=>decide (0≤t)&&decide (t<(nn:Nat)))=true:=by rw[←HRZ.out,HRR.out];exact hrq
               have ED:ro q=true:=by have:=HH3.out;rw[xM.out,hall];simp;omega
               have HRK:=ah ED
               clear hall ED hrq
               go_wp2
               go_roundw
               case rel=>exact⟨q+1,hlt,by go_num,by rw[EW.out,HRK.out],hbx,hB⟩
               case measure=>simp[intOf];omega
          ·have g1:((r:Int) != wd)=true:=by simp[h1]
           go_wp2_with fail
           refine aA (R:=Later) 28 (by kernel_rfl) ?_
           refine pl [0,1,2,3,4,5,6,7,8,9] ?_
           repeat
            refine dB ?_ rfl (fun w1 hl=>?_) ?_
            rotate_left
            ·obtain⟨hbx,c5,c3,_⟩:=HF.out w1 hl;obtain⟨x0,x1,x2,x3⟩:=hbx.mg;dsimp only at x0 x1 x2 x3;go_simp;try with_reducible rfl
            simp only[eA,eB,eC,Act.put,eD,eE,eF]
           refine bP ?_
           refine dO 10 rfl ?_
           simp only[eA,eB,eC,Act.put,eD,eE,eF]
           refine dO 11 rfl ?_
           simp only[eA,eB,eC,Act.put,eD,eE,eF]
           refine dO 12 rfl ?_
           simp only[eA,eB,eC,Act.put,eD,eE,eF]
           refine dO 13 rfl ?_
           simp only[eA,eB,eC,Act.put,eD,eE,eF]
           refine dO 14 rfl ?_
           simp only[eA,eB,eC,Act.put,eD,eE,eF]
           refine dO 15 rfl ?_
           simp only[eA,eB,eC,Act.put,eD,eE,eF]
           refine pl [16,17] ?_
           repeat
            refine dB ?_ rfl (fun w1 hl=>?_) ?_
            rotate_left
            ·obtain⟨hbx,c5,c3,_⟩:=HF.out w1 hl;obtain⟨x0,x1,x2,x3⟩:=hbx.mg;dsimp only at x0 x1 x2 x3;go_simp;try with_reducible rfl
            simp only[eA,eB,eC,Act.put,eD,eE,eF]
           refine bP ?_
           refine dO 18 rfl ?_
           simp only[eA,eB,eC,Act.put,eD,eE,eF]
           refine dO 19 rfl ?_
           simp only[eA,eB,eC,Act.put,eD,eE,eF]
           refine dO 20 rfl ?_
           simp only[eA,eB,eC,Act.put,eD,eE,eF]
           refine dO 21 rfl ?_
           simp only[eA,eB,eC,Act.put,eD,eE,eF]
           refine dO 22 rfl ?_
           simp only[eA,eB,eC,Act.put,eD,eE,eF]
           refine dO 23 rfl ?_
           simp only[eA,eB,eC,Act.put,eD,eE,eF]
           refine dO 24 rfl ?_
           simp only[eA,eB,eC,Act.put,eD,eE,eF]
           refine dO 25 rfl ?_
           simp only[eA,eB,eC,Act.put,eD,eE,eF]
           refine dO 26 rfl ?_
           simp only[eA,eB,eC,Act.put,eD,eE,eF]
           refine jB 27 ?_ rfl (fun w1 hl=>?_) ?_
           rotate_left
           ·obtain⟨hbx,c5,c3,_⟩:=HF.out w1 hl;obtain⟨x0,x1,x2,x3⟩:=hbx.mg;dsimp only at x0 x1 x2 x3;go_simp;try with_reducible rfl
           simp only[eA,eB,eC,Act.put,eD,eE,eF]
           refine aI (by kernel_rfl) (fun w1 hl=>?_) _
           have lZ:=(HF.out _ hl).2.2.2
           go_wp2
           go_ret
           exact⟨by rw[HN.out.1,HN.out.2,uT.out (by rw[xM.out];simp[h1])];rfl,lZ⟩
         ·obtain rfl:q=nn:=by omega
          have MC:=ah hok
          clear hok
          go_wp2
          go_ret
          exact⟨by rw[HN.out.1,HN.out.2,MC.out];rfl,hB⟩
   ·have q:(decide (1≤n)&&(decide (n≤65536)&&decide (nn=n)))=false:=by simp[b3]
    rw[q,Bool.false_and]
    have f3:((nn:Int) != (n:Int))=true:=by simp;omega
    have f3':(nn != n)=true:=by simp[b3]
    clear b1 b2 b3 q
    go_enter Tryz.func39,Tryz.ntmps39
    go_wp2
    go_ret
    exact⟨rfl,hB0⟩
end
section
open Go.RowKit
theorem aey(V:aG)(D:aT)(w0 w:World)(hV:V.of=D.of)(n wd lb lo nb no:Nat)(rb ro rc:Nat→Nat)(hM:qP w0 V D n wd lb lo nb no rb ro rc)(hB:Below w0.heap.size w0 w)(s:Nat)(b:UInt8)(hs:s<n) :
  Calls Tryz.prog 69 #[.agg V.cells,.int .i64 s,.int .u8 (b.toNat:Nat)] w (aX w (.int .i64 (kM D s b:Nat))):=by
 have hbx:=Box.new w V.cells 27
 have hB0:=aj w (.cells V.cells 27)
 have hgo:kM D s b=stepD D s (D.of b.toNat):=J6 D s b
 rw[hgo]
 have hbt:=b.toNat_lt
 obtain⟨hc1,hc2⟩:=hM.cap s hs
 obtain⟨ajl,zf⟩:=hM.nc
 obtain⟨ajI,OE⟩:=hM.lc
 have hob:=hM.of b.toNat hbt
 have hst:Below w.heap.size w (w.alloc (.cells V.cells 27)).drew:=hB0.trans ((Below.refl _ _).drew.mono hB0.size)
 have HF:Hid (∀ u,Later (w.alloc (.cells V.cells 27)).drew u→(u.cell? ⟨w.heap.size,257,none⟩=some (.slice (some ⟨nb,no,none⟩) n V.nc)∧u.cell? ⟨w.heap.size,b.toNat,none⟩=some (.int .u8 (D.of b.toNat:Nat))∧u.cell? ⟨nb,no+s,none⟩=some (.slice (some ⟨rb s,ro s,none⟩) wd (rc s))∧u.cell? ⟨rb s,ro s+D.of b.toNat,none⟩=some (.int .i64 (stepD D s (D.of b.toNat):Nat)))∧Below w.heap.size w u):=ah fun u hu=>by
  have h1:Below w.heap.size w u:=hst.trans (hu.mono hst.size)
  obtain⟨a1,a2,a3,a4,_⟩:=DT hM hV (hB.trans (h1.mono hB.size)) ((hbx.kept (Below.refl _ _).drew).kept hu) hs hbt
  exact⟨⟨a1,a2,a3,a4⟩,h1⟩
 have x2:(w.alloc (.cells V.cells 27)).cell? ⟨w.heap.size,258,none⟩=some (.slice (some ⟨lb,lo,none⟩) n V.lc):=(DT hM hV (hB.trans (hB0.mono hB.size)) hbx hs hbt).2.2.2.2.1
 have hbl:=hbx.lt
 clear hM hB hbx hB0 hst hV
 generalize b.toNat=bn at *
 generalize D.of bn=ob at *
 generalize stepD D s ob=s2 at *
 generalize rb s=rbs at *
 generalize ro s=ros at *
 generalize rc s=rcs at *
 have hsi:(s:Int)<(n:Int):=by omega
 have hs0:(0:Int)≤(s:Int):=by omega
 have hoi:(ob:Int)<(wd:Int):=by omega
 have ho0:(0:Int)≤(ob:Int):=by omega
 have hbi:(bn:Int)<256:=by omega
 have hb0:(0:Int)≤(bn:Int):=by omega
 have d1:decide ((s:Int)<0)=false:=decide_eq_false (by omega)
 have d2:decide ((n:Int)≤(s:Int))=false:=decide_eq_false (by omega)
 go_enter Tryz.func69,Tryz.ntmps69
 go_wp2
 refine aA (R:=Later) 12 (by kernel_rfl) ?_
 refine pl [0,1,2,3,4,5,6,7,8,9,10,11] ?_
 repeat
  refine dB ?_ rfl (fun w1 hl=>?_) ?_
  rotate_left
  ·obtain⟨⟨q1,q2,q3,q4⟩,hq⟩:=HF.out w1 hl;have l1:=World.block_lt_of_cell? w1 _ q1;have l2:=World.block_lt_of_cell? w1 _ q3;have l3:=World.block_lt_of_cell? w1 _ q4;go_simp;try with_reducible rfl
  simp only[eA,eB,eC,Act.put,eD,eE,eF]
 refine bP ?_
 refine aI (by kernel_rfl) (fun w1 hl=>?_) _
 obtain⟨_,hq⟩:=HF.out w1 hl
 clear HF hl
 go_wp2
 go_ret
 exact⟨rfl,hq⟩
theorem abQ(V:aG)(D:aT)(w0 w:World)(hV:V.of=D.of)(n wd lb lo nb no:Nat)(rb ro rc:Nat→Nat)(hM:qP w0 V D n wd lb lo nb no rb ro rc)(hB:Below w0.heap.size w0 w)(t:List UInt8)(ta:Option Addr)(tn tc:Nat)(hT:ak w (.slice ta tn tc) 1 bQ t) :
  Calls Tryz.prog 59 #[.agg V.cells,.slice ta tn tc] w (aX w (.int .i64 (dH D 0 t:Nat))):=by
 have hbx:=Box.new w V.cells 27
 have hB0:=aj w (.cells V.cells 27)
 obtain⟨tb,zC,htn,htc,YW,hta,htx⟩:=ak.dG (f:=fun x:UInt8=>Value.int .u8 (x.toNat:Nat)) hT
 subst htn
 have hn1:=hM.PW
 have HM:=ah hM;have Cc:=ah hbx;have HB0:=ah hB0;have Js:=ah hta;have HTX:=ah htx;have HB:=ah hB;have HV:=ah hV
 obtain⟨m,hm⟩:∃ m,t.length=m:=⟨_,rfl⟩
 have xq:=ah hm
 rw[hm] at htc ⊢
 obtain⟨R,hR⟩:∃ R,dH D 0 t=R:=⟨_,rfl⟩
 rw[hR]
 have HR:=ah hR
 clear hM hbx hB0 hta htx hT hB hV hm hR
 go_enter Tryz.func59,Tryz.ntmps59
 go_wp2
 go_loopw [5,6] (fun v5 v6 wr=>∃ i:Nat,i≤m∧v6=.int .i64 i∧v5=.int .i64 (dH D 0 (t.take i):Nat)∧Below (w.heap.size+1) (w.alloc (.cells V.cells 27)) wr) (fun _ v6 _=>m - (intOf v6).toNat)
 case atStart=>exact⟨0,Nat.zero_le _,rfl,rfl,Below.refl _ _⟩
 case round =>
  obtain⟨i,hi,rfl,rfl,hBr⟩:=hrel
  have aez:Below (w.alloc (.cells V.cells 27)).heap.size (w.alloc (.cells V.cells 27)) wr:=by rw[World.size_alloc];exact hBr
  have hBw:Below w.heap.size w wr:=HB0.out.trans (aez.mono HB0.out.size)
  have hx:=Cc.out.kept aez
  have hsz:=hBw.size
  by_cases hlt:i<m
  ·have hlt2:i<t.length:=by rw[xq.out];exact hlt
   obtain rfl:=Js.out i hlt2
   have hs:=HM.out.run (t.take i) (s:=0) (by omega)
   have hsn:dH D 0 (t.take (i+1))=kM D (dH D 0 (t.take i)) t[i]:=by rw[List.take_succ_eq_append_getElem hlt2,PX]
   have hc:=HTX.out i hlt2
   generalize t[i]=b at *
   generalize dH D 0 (t.take i)=s at *
   have hDr:Below wr.heap.size wr wr.drew:=(Below.refl _ _).drew
   have HF:Hid (∀ u,Later wr.drew u→Box u w.heap.size V.cells 27∧u.cell? ⟨tb,zC+i,none⟩=some (.int .u8 (b.toNat:Nat))∧Calls Tryz.prog 69 #[.agg V.cells,.int .i64 s,.int .u8 (b.toNat:Nat)] u (aX u (.int .i64 (kM D s b:Nat)))∧Below wr.heap.size wr u):=ah fun u hu=>by
    have h1:Below wr.heap.size wr u:=hDr.trans (hu.mono hDr.size)
    have h2:Below w.heap.size w u:=hBw.trans (h1.mono hBw.size)
    exact⟨hx.kept h1,hc u h2,aey V D w0 u HV.out n wd lb lo nb no rb ro rc HM.out (HB.out.trans (h2.mono HB.out.size)) s b hs,h1⟩
   have HSN:=ah hsn;have Fg:=ah hBr
   have hii:(i:Int)<(m:Int):=by omega
   have hi0:(0:Int)≤(i:Int):=by omega
   clear hsn hBr aez hBw hx hDr hc
   go_wp2_with fail
   refine aA (R:=Later) 8 (by kernel_rfl) ?_
   refine oZ (t:=8) (i:=0) rfl (by kernel_rfl) (by kernel_rfl) (by kernel_rfl) (by kernel_rfl) (fun _ _ _ h=>h) (by rfl) (fun w1 hl=>iE 27 _ rfl _ rfl ((HF.out w1 hl).1) Tryz.underlying27 rfl (aQ V)) ?_
   simp only[eA,eB,Act.put,eD,eE,eF]
   refine pl [1,2,3,4,5] ?_
   repeat
    refine dB ?_ rfl (fun w1 hl=>?_) ?_
    rotate_left
    ·obtain⟨_,q1,_,_⟩:=HF.out w1 hl;have l1:=World.block_lt_of_cell? w1 _ q1;go_simp;try with_reducible rfl
    simp only[eA,eB,eC,Act.put,eD,eE,eF]
   refine bP ?_
   refine zn 6 ?_ ?_ ?_ rfl (fun w1=>?_) (fun w1 hl=>?_) ?_
   rotate_left 4
   ·exact(HF.out w1 hl).2.2.1
   rotate_left
   ·go_simp
   simp only[eA,eB,eC,Act.put,eD,eE,eF]
   refine jB 7 ?_ rfl (fun w1 hl=>?_) ?_
   rotate_left
   ·skip;go_simp;try with_reducible rfl
   simp only[eA,eB,eC,Act.put,eD,eE,eF]
   refine aI (by kernel_rfl) (fun w1 hl=>?_) _
   have hq:=(HF.out w1 hl).2.2.2
   clear HF hl
   go_wp2
   exact⟨⟨i+1,hlt,by push_cast;rfl,by rw[HSN.out],Fg.out.trans (hq.mono (by have:=Fg.out.size;rw[World.size_alloc] at this;omega))⟩,by simp[intOf];omega⟩
  ·obtain rfl:i=m:=by omega
   rw[←xq.out,List.take_length,HR.out]
   go_wp2
   go_ret
   exact⟨rfl,hBw⟩
theorem Y5(V:aG)(D:aT)(w0 w:World)(hV:V.of=D.of)(n wd lb lo nb no:Nat)(rb ro rc:Nat→Nat)(hM:qP w0 V D n wd lb lo nb no rb ro rc)(hB:Below w0.heap.size w0 w)(t:List UInt8)(ta:Option Addr)(tn tc:Nat)(hT:ak w (.slice ta tn tc) 1 bQ t) :
  Calls Tryz.prog 40 #[.agg V.cells,.slice ta tn tc] w (aX w (.int .i64 (labS D (dH D 0 t)))):=by
 have hbx:=Box.new w V.cells 27
 have hB0:=aj w (.cells V.cells 27)
 have hst:Below w.heap.size w (w.alloc (.cells V.cells 27)).drew:=hB0.trans ((Below.refl _ _).drew.mono hB0.size)
 have hs:=hM.run t (s:=0) hM.PW.1
 obtain⟨ajI,OE⟩:=hM.lc
 have HF:Hid (∀ u,Later (w.alloc (.cells V.cells 27)).drew u→Box u w.heap.size V.cells 27∧u.cell? ⟨w.heap.size,258,none⟩=some (.slice (some ⟨lb,lo,none⟩) n V.lc)∧u.cell? ⟨lb,lo+dH D 0 t,none⟩=some (.int .i64 (labS D (dH D 0 t)))∧Calls Tryz.prog 59 #[.agg V.cells,.slice ta tn tc] u (aX u (.int .i64 (dH D 0 t:Nat)))∧Below w.heap.size w u):=ah fun u hu=>by
  have h1:Below w.heap.size w u:=hst.trans (hu.mono hst.size)
  have hx:=(hbx.kept (Below.refl _ _).drew).kept hu
  have h2:Below w0.heap.size w0 u:=hB.trans (h1.mono hB.size)
  obtain⟨_,_,_,_,a5,a6⟩:=DT hM hV h2 hx hs (bn:=0) (by decide)
  exact⟨hx,a5,a6,abQ V D w0 u hV n wd lb lo nb no rb ro rc hM h2 t ta tn tc (hT.kept h1),h1⟩
 clear hM hB hT hbx hB0 hst hV
 generalize labS D (dH D 0 t)=lab at *
 generalize dH D 0 t=s at *
 have hsi:(s:Int)<(n:Int):=by omega
 have hs0:(0:Int)≤(s:Int):=by omega
 go_enter Tryz.func40,Tryz.ntmps40
 go_wp2_with fail
 refine aA (R:=Later) 8 (by kernel_rfl) ?_
 refine oZ (t:=8) (i:=2) rfl (by kernel_rfl) (by kernel_rfl) (by kernel_rfl) (by kernel_rfl) (fun _ _ _ h=>h) (by rfl) (fun w1 hl=>iE 27 _ rfl _ rfl ((HF.out w1 hl).1) Tryz.underlying27 rfl (aQ V)) ?_
 simp only[eA,eB,eC,Act.put,eD,eE,eF]
 refine pl [0,3] ?_
 repeat
  refine dB ?_ rfl (fun w1 hl=>?_) ?_
  rotate_left
  ·skip;go_simp;try with_reducible rfl
  simp only[eA,eB,eC,Act.put,eD,eE,eF]
 refine bP ?_
 refine zn 4 ?_ ?_ ?_ rfl (fun w1=>?_) (fun w1 hl=>?_) ?_
 rotate_left 4
 ·exact(HF.out w1 hl).2.2.2.1
 rotate_left
 ·go_simp
 simp only[eA,eB,eC,Act.put,eD,eE,eF]
 refine pl [1,5,6,7] ?_
 repeat
  refine dB ?_ rfl (fun w1 hl=>?_) ?_
  rotate_left
  ·obtain⟨_,q1,q2,_⟩:=HF.out w1 hl;have l1:=World.block_lt_of_cell? w1 _ q1;have l2:=World.block_lt_of_cell? w1 _ q2;go_simp;try with_reducible rfl
  simp only[eA,eB,eC,Act.put,eD,eE,eF]
 refine bP ?_
 refine aI (by kernel_rfl) (fun w1 hl=>?_) _
 have hq:=(HF.out w1 hl).2.2.2.2
 clear HF hl
 go_wp2
 go_ret
 exact⟨rfl,hq⟩
end
end Go.Proofs.YtaoinbjjolikhaaGreatDoor
