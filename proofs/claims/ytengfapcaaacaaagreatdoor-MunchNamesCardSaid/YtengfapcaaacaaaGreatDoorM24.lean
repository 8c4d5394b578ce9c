/- The texts of N24, in few letters (mini.py). -/
import Derived.Test.YtengfapcaaacaaaGreatDoorM23
import Derived.Test.YtengfapcaaacaaaGreatDoorRows
import Derived.Test.YtengfapcaaacaaaGreatDoorM7
set_option linter.unusedVariables false
set_option linter.unusedSimpArgs false
set_option maxRecDepth 20000
set_option maxHeartbeats 3200000
namespace Go.Proofs.YtengfapcaaacaaaGreatDoor
section
open Go.RowKit
theorem ac3(l:List (List UInt8))(s:List UInt8)(q:Nat)(h:q<l.length):(l.take (q+1)).contains s=((l.take q).contains s||(l[q]==s)):=by
 rw[List.take_succ_eq_append_getElem h,Bool.eq_iff_iff,Bool.or_eq_true,List.contains_iff_mem,List.contains_iff_mem,List.mem_append,List.mem_singleton,beq_iff_eq]
 exact or_congr Iff.rfl eq_comm
theorem aai(l:List (List UInt8))(s:List UInt8)(q k:Nat)(hq:q<k)(h:q<l.length)(e:l[q]=s):(l.take k).contains s=true:=by
 rw[List.contains_iff_mem]
 have:(l.take k)[q]'(by simp;omega)=s:=by simpa using e
 exact this▸List.getElem_mem _
theorem UZ(V:aG)(D:bC)(w:World)(h:iJ w V D)(hof:∀ b,V.of b<256)(hl:∀ x∈D.names,x.length≤9223372036854775807):Calls Tryz.prog 25 #[.agg V.cells] w (aY w (.bool (jC D))):=by
 obtain⟨of,wd,na,nn,nc,la,n,lc,ma,mn,mc⟩:=V
 obtain⟨of',wd',nx,lb,nm⟩:=D
 have hst:=IU ⟨of',wd',nx,lb,nm⟩
 have hfa:=Gt ⟨of',wd',nx,lb,nm⟩
 obtain⟨h0,h1,h3,h4,rows,h5,h6,h7⟩:=h
 dsimp only at *
 subst h0
 subst h1
 obtain⟨b5,o5,e5,c5,SE,a5,k5⟩:=h5.dh
 obtain⟨b3,o3,e3,c3,c3',a3,k3⟩:=h3.dh
 obtain⟨b4,o4,e4,c4,c4',a4,k4⟩:=h4.dh
 have hnb:n≤9223372036854775807:=by omega
 have CQ:nn≤9223372036854775807:=by omega
 have hmb:mn≤9223372036854775807:=by omega
 have hpr:=fun w1=>UC of hof wd w1
 have hr:jC ⟨of,wd,nx,lb,nm⟩=((decide (1≤n)&&(decide (n≤65536)&&decide (nn=n)))&&((kE (bf (aW (bH of))) of&&((iL (aW (bH of)):Nat)==wd))&&((decide (mn≤64)&&qg nm mn)&&jZ ⟨of,wd,nx,lb,nm⟩ nx.length))):=by
  rw[e3,e4,show nn=nx.length by omega];rfl
 rw[hr]
 have VQ:=ah hpr
 clear hpr hr h3 h4 h5 hof
 generalize hp:(kE (bf (aW (bH of))) of&&((iL (aW (bH of)):Nat)==wd))=p at *
 have hbx:=Box.new w (aG.cells ⟨of,wd,na,nn,nc,la,n,lc,ma,mn,mc⟩) 27
 have hB0:=aj w (.cells (aG.cells ⟨of,wd,na,nn,nc,la,n,lc,ma,mn,mc⟩) 27)
 obtain⟨x0,x1,x2,x3⟩:=hbx.kS
 dsimp only at x0 x1 x2 x3
 have HH:=ah (And.intro h6 h7)
 have HST:=ah hst
 have Au:=ah hfa
 have HL:=ah hl
 have HE:=ah (And.intro e5 (And.intro e3 e4))
 have HA:=ah (And.intro a5 (And.intro a3 a4))
 have HK:=ah (And.intro k5 (And.intro k3 k4))
 clear h6 h7 hst hfa hl e5 e3 e4 a5 a3 a4 k5 k3 k4 hp
 by_cases b1:n<1
 ·have e1:decide ((n:Int)<1)=true:=by simp;omega
  have q:(decide (1≤n)&&(decide (n≤65536)&&decide (nn=n)))=false:=by simp;omega
  rw[q,Bool.false_and]
  clear b1 q
  go_enter Tryz.func25,Tryz.ntmps25
  go_wp2
  go_ret
  exact⟨rfl,hB0⟩
 ·have e1:decide ((n:Int)<1)=false:=by simp;omega
  by_cases b2:65536<n
  ·have e2:decide (65536<(n:Int))=true:=by simp;omega
   have q:(decide (1≤n)&&(decide (n≤65536)&&decide (nn=n)))=false:=by simp;omega
   rw[q,Bool.false_and]
   clear b1 b2 q
   go_enter Tryz.func25,Tryz.ntmps25
   go_wp2
   go_ret
   exact⟨rfl,hB0⟩
  ·have e2:decide (65536<(n:Int))=false:=by simp;omega
   by_cases b3:nn=n
   ·have q:(decide (1≤n)&&(decide (n≤65536)&&decide (nn=n)))=true:=by simp;omega
    rw[q,Bool.true_and]
    have f3:((nn:Int) != (n:Int))=false:=by simp[b3]
    have f3':(nn != n)=false:=by simp[b3]
    by_cases b4:64<mn
    ·have e4:decide (64<(mn:Int))=true:=by simp;omega
     have q2:decide (mn≤64)=false:=by simp;omega
     rw[q2,Bool.false_and,Bool.false_and,Bool.and_false]
     clear b1 b2 b4 q q2 b3
     go_enter Tryz.func25,Tryz.ntmps25
     go_wp2
     go_ret
     exact⟨rfl,hB0⟩
    ·have e4:decide (64<(mn:Int))=false:=by simp;omega
     have q2:decide (mn≤64)=true:=by simp;omega
     rw[q2,Bool.true_and]
     clear q q2 b1 b2 b4
     cases p with
     | false =>
      rw[Bool.false_and]
      clear b3
      go_enter Tryz.func25,Tryz.ntmps25
      go_wp2_with (first | (refine oH (by rfl) 22 _ rfl w.heap.size rfl hbx Tryz.underlying22 rfl (aT _) ?_) | (go_at_call 59;go_must (refine(VQ.out _).mono ?_;rintro e w1 ⟨rfl,hB1⟩)))
      go_ret
      exact⟨rfl,hB0.trans (hB1.mono (by simp))⟩
     | true =>
      rw[Bool.true_and]
      obtain rfl:nn=n:=b3
      clear f3 f3'
      go_enter Tryz.func25,Tryz.ntmps25
      go_wp2_with (first | (refine oH (by rfl) 22 _ rfl w.heap.size rfl hbx Tryz.underlying22 rfl (aT _) ?_) | (go_at_call 59;go_must (refine(VQ.out _).mono ?_;rintro e w1 ⟨rfl,hB1⟩;have dO:=hbx.kept hB1;have hB1:=hB0.trans (hB1.mono (by simp));clear hB0 hbx x0 x1 x2 x3)))
      go_loopw [4] (fun i wr=>∃ k:Nat,k≤mn∧i=.int .i64 k∧qg nm k=true∧Box wr w.heap.size (aG.cells ⟨of,wd,na,nn,nc,la,nn,lc,ma,mn,mc⟩) 27∧Below w.heap.size w wr) (fun i _=>mn - (intOf i).toNat)
      case atStart=>exact⟨0,Nat.zero_le _,rfl,rfl,dO,hB1⟩
      case round =>
       clear dO hB1
       obtain⟨k,hk,rfl,hok,hbx,hB⟩:=hrel
       obtain⟨x0,x1,x2,x3⟩:=hbx.kS
       dsimp only at x0 x1 x2 x3
       by_cases hlt:k<mn
       ·have hk2:k<nm.length:=by rw[←HE.out.2.2];exact hlt
        obtain rfl:=HA.out.2.2 k hk2
        have c4:=HK.out.2.2 k hk2 wr hB
        have hnm:=fun w=>Xk nm[k] w (HL.out _ (List.getElem_mem hk2))
        have hnx:nameAt nm k=(qE nm[k]&&!((nm.take k).contains nm[k])):=by
         unfold nameAt;rw[List.getD_eq_getElem?_getD,List.getElem?_eq_getElem hk2];rfl
        have hsucc:=Gp nm k
        rw[hok,Bool.true_and] at hsucc
        have hfalse:=EP nm k mn hlt
        generalize hs:nm[k]=s at *
        have uS:=ah hnm
        have Aw:=ah hnx
        have EL:=ah hsucc
        have uQ:=ah hfalse
        have HS:=ah hs
        have hk0:(0:Int)≤(k:Int):=by omega
        have hkm:(k:Int)<(mn:Int):=by omega
        clear hnm hnx hsucc hfalse hok hs
        cases hn:qE s with
        | false =>
         have hx:nameAt nm k=false:=by rw[Aw.out,hn];rfl
         rw[hn] at uS
         have HX:=ah hx
         clear hx hn
         go_wp2_with (go_at_call 46;go_must (refine(uS.out _).mono ?_;rintro e w1 ⟨rfl,hB1⟩;have hB2:=hB.trans (hB1.mono hB.size)))
         go_ret
         exact⟨by rw[uQ.out HX.out];rfl,hB2⟩
        | true =>
         rw[hn] at uS
         have HX:Hid (nameAt nm k=!((nm.take k).contains s)):=ah (by rw[Aw.out,hn];rfl)
         clear hn
         go_wp2_with (go_at_call 46;go_must (refine(uS.out _).mono ?_;rintro e w1 ⟨rfl,hB1⟩;have hB2:=hB.trans (hB1.mono hB.size);have hbx2:=hbx.kept hB1))
         clear hbx hB hB1
         go_loopw [5] (fun i wr=>∃ q:Nat,q≤k∧i=.int .i64 q∧(nm.take q).contains s=false∧Box wr w.heap.size (aG.cells ⟨of,wd,na,nn,nc,la,nn,lc,some ⟨b4,o4,none⟩,mn,mc⟩) 27∧Below w.heap.size w wr) (fun i _=>k - (intOf i).toNat)
         case atStart=>exact⟨0,Nat.zero_le _,rfl,rfl,hbx2,hB2⟩
         case round =>
          clear hbx2 hB2 x0 x1 x2 x3 c4
          obtain⟨q,hq,rfl,hno,hbx,hB⟩:=hrel
          by_cases hlt2:q<k
          ·have hq2:q<nm.length:=by omega
           have ck:=HK.out.2.2 k hk2 wr hB
           have cq:=HK.out.2.2 q hq2 wr hB
           have hth:=ac3 nm s q hq2
           have htf:=aai nm s q k hlt2 hq2
           rw[hno,Bool.false_or] at hth
           rw[HS.out] at ck
           generalize nm[q]=r at *
           have HTH:=ah hth
           have HTF:=ah htf
           have HF:Hid (∀ v,Later wr.drew v→Box v w.heap.size (aG.cells ⟨of,wd,na,nn,nc,la,nn,lc,some ⟨b4,o4,none⟩,mn,mc⟩) 27∧v.cell? ⟨b4,o4+k,none⟩=some (sv s)∧v.cell? ⟨b4,o4+q,none⟩=some (sv r)∧Below w.heap.size w v):=ah fun v hl =>
            ⟨hbx.drew.kept hl,(Below.cell hl (World.block_lt_of_cell? wr _ ck)).trans ck,(Below.cell hl (World.block_lt_of_cell? wr _ cq)).trans cq,hB.drew.trans (Below.mono hl hB.size)⟩
           have hq0:(0:Int)≤(q:Int):=by omega
           have hqk:(q:Int)<(k:Int):=by omega
           have hqm:(q:Int)<(mn:Int):=by omega
           clear hth htf hno ck cq hbx hB
           go_wp2_with fail
           refine aA (R:=Later) 11 (by kernel_rfl) ?_
           refine pl [0,1,2,3,4,5,6,7,8,9,10] ?_
           repeat
            refine dI ?_ rfl (fun w1 hl=>?_) ?_
            rotate_left
            ·obtain⟨hbx,c4,c5,_⟩:=HF.out w1 hl;obtain⟨x0,x1,x2,x3⟩:=hbx.kS;dsimp only at x0 x1 x2 x3;go_simp;try with_reducible rfl
            simp only[eA,eB,eC,Act.put,eD,eE,eF]
           refine bU ?_
           refine aH (by kernel_rfl) (fun w1 hl=>?_) _
           have lY:=(HF.out _ hl).2.2.2
           have JB:=(HF.out _ hl).1
           clear hl
           cases hrs:r==s with
           | true =>
            have hr2:r=s:=by simpa using hrs
            have hx:nameAt nm k=false:=by rw[HX.out,HTF.out hr2];rfl
            have LM:=ah hx
            clear hx hr2
            go_wp2
            go_ret
            exact⟨by rw[uQ.out LM.out];rfl,lY⟩
           | false =>
            have LM:=ah hrs
            go_wp2
            go_roundw
            case rel=>exact⟨q+1,hlt2,by go_num,by rw[HTH.out,LM.out],JB,lY⟩
            case measure=>simp[intOf];omega
          ·obtain rfl:q=k:=by omega
           have hx:nameAt nm q=true:=by rw[HX.out,hno];rfl
           have LM:=ah hx
           clear hno hx
           go_wp2
           go_roundw
           case rel=>exact⟨q+1,hlt,by go_num,by rw[EL.out,LM.out],hbx,hB⟩
           case measure=>simp[intOf];omega
       ·obtain rfl:k=mn:=by omega
        have hok0:=hok
        clear hok x0 x1 x2 x3
        have SG:jZ ⟨of,wd,nx,lb,nm⟩ 0=true:=rfl
        have hlen:nx.length=nn:=by have:=HE.out.1;have:=HH.out.1;omega
        have HN:=ah (And.intro hok0 hlen)
        have hat:=fun q=>@SC of wd nx lb nm nn k HE.out.2.1 HE.out.2.2 q
        generalize jZ ⟨of,wd,nx,lb,nm⟩=rt at *
        generalize vS ⟨of,wd,nx,lb,nm⟩=ro at *
        have HAT:=ah hat
        obtain⟨x0,x1,x2,x3⟩:=hbx.kS
        dsimp only at x0 x1 x2 x3
        clear hat
        go_wp2
        go_loopw [6] (fun i wr=>∃ q:Nat,q≤nn∧i=.int .i64 q∧rt q=true∧Box wr w.heap.size (aG.cells ⟨of,wd,na,nn,nc,la,nn,lc,ma,k,mc⟩) 27∧Below w.heap.size w wr) (fun i _=>nn - (intOf i).toNat)
        case atStart=>exact⟨0,Nat.zero_le _,rfl,SG,hbx,hB⟩
        case round =>
         clear hbx hB SG x0 x1 x2 x3
         obtain⟨q,hq,rfl,hok,hbx,hB⟩:=hrel
         by_cases hlt:q<nn
         ·have hk1:q<nx.length:=by omega
          have hk2:q<lb.length:=by have:=HE.out.2.1;omega
          have hk3:q<rows.length:=by have:=HE.out.1;omega
          obtain rfl:=HA.out.1 q hk3
          obtain rfl:=HA.out.2.1 q hk2
          have c5:=HK.out.1 q hk3 wr hB
          have c3:=HK.out.2.1 q hk2 wr hB
          have hro:=HAT.out q hk1 hk2
          obtain⟨ra,rc,hr,hrs⟩:=HH.out.2 q hk3 hk1
          rw[hr] at c5
          have hsucc:=HST.out q
          rw[hok,Bool.true_and] at hsucc
          have hfalse:=Au.out q nn hlt
          have HC5:Hid (∀ v,Below w.heap.size w v→v.cell? ⟨b5,o5+q,none⟩=some (.slice ra nx[q].length rc)):=ah fun v hv=>by have:=HK.out.1 q hk3 v hv;rw[this,hr]
          generalize nx[q]=row at *
          generalize lb[q]=lab at *
          have ER:=ah hro
          have EL:=ah hsucc
          have uQ:=ah hfalse
          have hk0:(0:Int)≤(q:Int):=by omega
          have hkm:(q:Int)<(nn:Int):=by omega
          clear hro hr hsucc hfalse hok hlen hok0
          have hrl:row.length≤9223372036854775807:=by obtain⟨_,_,_,h1,h2,_⟩:=hrs.dh;omega
          obtain⟨b6,o6,_,_,_,a6,k6⟩:=hrs.dh
          have hra:=fun q=>LG row nn q
          have hrz:=rowAt_all row nn
          have SH:=fun q h hp=>all_false (r:=row) (p:=fun t=>decide (0≤t)&&decide (t<(nn:Nat))) (k:=q) h hp
          obtain⟨r,hrr⟩:∃ r,row.length=r:=⟨_,rfl⟩
          rw[hrr] at hrl
          have HRR:=ah hrr
          have HRA:=ah hra
          have HRZ:=ah hrz
          have HRF:=ah SH
          have HA6:=ah a6
          have SI:=ah k6
          rw[hrr] at c5 HC5
          have xH:Hid (ro q=((decide (((r:Nat):Int)=wd)&&(decide (0≤lab)&&decide (lab≤(k:Nat))))&&row.all fun t=>decide (0≤t)&&decide (t<(nn:Nat)))):=ah (by rw[ER.out,HRR.out])
          have HF:Hid (∀ v,Later wr.drew v→Box v w.heap.size (aG.cells ⟨of,wd,some ⟨b5,o5,none⟩,nn,nc,some ⟨b3,o3,none⟩,nn,lc,ma,k,mc⟩) 27∧v.cell? ⟨b5,o5+q,none⟩=some (.slice ra r rc)∧v.cell? ⟨b3,o3+q,none⟩=some (.int .i64 lab)∧Below w.heap.size w v):=ah fun v hl =>
           ⟨hbx.drew.kept hl,(Below.cell hl (World.block_lt_of_cell? wr _ c5)).trans c5,(Below.cell hl (World.block_lt_of_cell? wr _ c3)).trans c3,hB.drew.trans (Below.mono hl hB.size)⟩
          clear hrr hra hrz SH a6 k6 ER
          clear hbx hB hrs
          have SE:=(HF.out wr.drew (Below.refl _ _)).2.1
          have c3':=(HF.out wr.drew (Below.refl _ _)).2.2.1
          by_cases h1:(r:Int)=wd
          ·have g1:((r:Int) != wd)=false:=by simp[h1]
           by_cases h2:lab<0
           ·have g2:decide (lab<0)=true:=by simp[h2]
            go_wp2_with fail
            refine aA (R:=Later) 28 (by kernel_rfl) ?_
            refine pl [0,1,2,3,4,5,6,7,8,9,10,11,12,13,14,15,16,17] ?_
            repeat
             refine dI ?_ rfl (fun w1 hl=>?_) ?_
             rotate_left
             ·obtain⟨hbx,c5,c3,_⟩:=HF.out w1 hl;obtain⟨x0,x1,x2,x3⟩:=hbx.kS;dsimp only at x0 x1 x2 x3;go_simp;try with_reducible rfl
             simp only[eA,eB,eC,Act.put,eD,eE,eF]
            refine bU ?_
            refine dK 18 rfl ?_
            simp only[eA,eB,eC,Act.put,eD,eE,eF]
            refine dK 19 rfl ?_
            simp only[eA,eB,eC,Act.put,eD,eE,eF]
            refine dK 20 rfl ?_
            simp only[eA,eB,eC,Act.put,eD,eE,eF]
            refine dK 21 rfl ?_
            simp only[eA,eB,eC,Act.put,eD,eE,eF]
            refine dK 22 rfl ?_
            simp only[eA,eB,eC,Act.put,eD,eE,eF]
            refine dK 23 rfl ?_
            simp only[eA,eB,eC,Act.put,eD,eE,eF]
            refine dK 24 rfl ?_
            simp only[eA,eB,eC,Act.put,eD,eE,eF]
            refine dK 25 rfl ?_
            simp only[eA,eB,eC,Act.put,eD,eE,eF]
            refine dK 26 rfl ?_
            simp only[eA,eB,eC,Act.put,eD,eE,eF]
            refine jM 27 ?_ rfl (fun w1 hl=>?_) ?_
            rotate_left
            ·obtain⟨hbx,c5,c3,_⟩:=HF.out w1 hl;obtain⟨x0,x1,x2,x3⟩:=hbx.kS;dsimp only at x0 x1 x2 x3;go_simp;try with_reducible rfl
            simp only[eA,eB,eC,Act.put,eD,eE,eF]
            refine aH (by kernel_rfl) (fun w1 hl=>?_) _
            have lY:=(HF.out _ hl).2.2.2
            go_wp2
            go_ret
            exact⟨by rw[HN.out.1,HN.out.2,uQ.out (by rw[xH.out];simp;omega)];rfl,lY⟩
           ·have g2:decide (lab<0)=false:=by simp;omega
            by_cases h3:(k:Int)<lab
            ·have g3:decide ((k:Int)<lab)=true:=by simp[h3]
             go_wp2_with fail
             refine aA (R:=Later) 28 (by kernel_rfl) ?_
             refine pl [0,1,2,3,4,5,6,7,8,9,10,11,12,13,14,15,16,17,18,19,20,21,22,23,24,25,26,27] ?_
             repeat
              refine dI ?_ rfl (fun w1 hl=>?_) ?_
              rotate_left
              ·obtain⟨hbx,c5,c3,_⟩:=HF.out w1 hl;obtain⟨x0,x1,x2,x3⟩:=hbx.kS;dsimp only at x0 x1 x2 x3;go_simp;try with_reducible rfl
              simp only[eA,eB,eC,Act.put,eD,eE,eF]
             refine bU ?_
             refine aH (by kernel_rfl) (fun w1 hl=>?_) _
             have lY:=(HF.out _ hl).2.2.2
             go_wp2
             go_ret
             exact⟨by rw[HN.out.1,HN.out.2,uQ.out (by rw[xH.out];simp;omega)];rfl,lY⟩
            ·have g3:decide ((k:Int)<lab)=false:=by simp;omega
             have HH3:=ah (And.intro h1 (And.intro h2 h3))
             subst h1
             clear h2 h3
             go_wp2_with fail
             refine aA (R:=Later) 28 (by kernel_rfl) ?_
             refine pl [0,1,2,3,4,5,6,7,8,9,10,11,12,13,14,15,16,17,18,19,20,21,22,23,24,25,26,27] ?_
             repeat
              refine dI ?_ rfl (fun w1 hl=>?_) ?_
              rotate_left
              ·obtain⟨hbx,c5,c3,_⟩:=HF.out w1 hl;obtain⟨x0,x1,x2,x3⟩:=hbx.kS;dsimp only at x0 x1 x2 x3;go_simp;try with_reducible rfl
              simp only[eA,eB,eC,Act.put,eD,eE,eF]
             refine bU ?_
             refine aH (by kernel_rfl) (fun w1 hl=>?_) _
             have lY:=(HF.out _ hl).2.2.2
             have JB:=(HF.out _ hl).1
             clear hl
             go_wp2
             have hrow0:rowAt row nn 0=true:=rfl
             go_loopw [7] (fun i wr=>∃ q:Nat,q≤r∧i=.int .i64 q∧rowAt row nn q=true∧Box wr w.heap.size (aG.cells ⟨of,(r:Int),some ⟨b5,o5,none⟩,nn,nc,some ⟨b3,o3,none⟩,nn,lc,ma,k,mc⟩) 27∧Below w.heap.size w wr) (fun i _=>r - (intOf i).toNat)
             case atStart=>exact⟨0,Nat.zero_le _,rfl,hrow0,JB,lY⟩
             case round =>
              clear hrow0 JB lY c5 c3 SE c3'
              obtain⟨z,hz,rfl,hrq,hbx,hB⟩:=hrel
              obtain⟨x0,x1,x2,x3⟩:=hbx.kS
              dsimp only at x0 x1 x2 x3
              by_cases hlt3:z<r
              ·have hq2:z<row.length:=by rw[HRR.out];exact hlt3
               obtain rfl:=HA6.out z hq2
               have c6:=SI.out z hq2 wr hB
               have c5:=HC5.out wr hB
               have hra:=HRA.out z hq2
               have hrf:=HRF.out z hq2
               rw[hrq,Bool.true_and] at hra
               generalize row[z]=tt at *
               have acZ:=ah hra
               have SK:=ah hrf
               have hq0:(0:Int)≤(z:Int):=by omega
               have hqm:(z:Int)<(r:Int):=by omega
               clear hra hrf hrq
               by_cases t1:tt<0
               ·have e4:decide (tt<0)=true:=by simp[t1]
                go_wp2
                go_ret
                exact⟨by rw[HN.out.1,HN.out.2,uQ.out (by rw[xH.out,SK.out (by simp;omega),Bool.and_false])];rfl,hB⟩
               ·have e4:decide (tt<0)=false:=by simp;omega
                by_cases t2:(nn:Int)≤tt
                ·have e5:decide ((nn:Int)≤tt)=true:=by simp[t2]
                 go_wp2
                 go_ret
                 exact⟨by rw[HN.out.1,HN.out.2,uQ.out (by rw[xH.out,SK.out (by simp;omega),Bool.and_false])];rfl,hB⟩
                ·have e5:decide ((nn:Int)≤tt)=false:=by simp;omega
                 go_wp2
                 go_roundw
                 case rel=>exact⟨z+1,hlt3,by go_num,by rw[acZ.out];simp;omega,hbx,hB⟩
                 case measure=>simp[intOf];omega
              ·obtain rfl:z=r:=by omega
               have hall:(row.all fun t=>decide (0≤t)&&decide (t<(nn:Nat)))=true:=by rw[←HRZ.out,HRR.out];exact hrq
               have En:ro q=true:=by have:=HH3.out;rw[xH.out,hall];simp;omega
               have HRK:=ah En
               clear hall En hrq
               go_wp2
               go_roundw
               case rel=>exact⟨q+1,hlt,by go_num,by rw[EL.out,HRK.out],hbx,hB⟩
               case measure=>simp[intOf];omega
          ·have g1:((r:Int) != wd)=true:=by simp[h1]
           go_wp2_with fail
           refine aA (R:=Later) 28 (by kernel_rfl) ?_
           refine pl [0,1,2,3,4,5,6,7,8,9] ?_
           repeat
            refine dI ?_ rfl (fun w1 hl=>?_) ?_
            rotate_left
            ·obtain⟨hbx,c5,c3,_⟩:=HF.out w1 hl;obtain⟨x0,x1,x2,x3⟩:=hbx.kS;dsimp only at x0 x1 x2 x3;go_simp;try with_reducible rfl
            simp only[eA,eB,eC,Act.put,eD,eE,eF]
           refine bU ?_
           refine dK 10 rfl ?_
           simp only[eA,eB,eC,Act.put,eD,eE,eF]
           refine dK 11 rfl ?_
           simp only[eA,eB,eC,Act.put,eD,eE,eF]
           refine dK 12 rfl ?_
           simp only[eA,eB,eC,Act.put,eD,eE,eF]
           refine dK 13 rfl ?_
           simp only[eA,eB,eC,Act.put,eD,eE,eF]
           refine dK 14 rfl ?_
           simp only[eA,eB,eC,Act.put,eD,eE,eF]
           refine dK 15 rfl ?_
           simp only[eA,eB,eC,Act.put,eD,eE,eF]
           refine pl [16,17] ?_
           repeat
            refine dI ?_ rfl (fun w1 hl=>?_) ?_
            rotate_left
            ·obtain⟨hbx,c5,c3,_⟩:=HF.out w1 hl;obtain⟨x0,x1,x2,x3⟩:=hbx.kS;dsimp only at x0 x1 x2 x3;go_simp;try with_reducible rfl
            simp only[eA,eB,eC,Act.put,eD,eE,eF]
           refine bU ?_
           refine dK 18 rfl ?_
           simp only[eA,eB,eC,Act.put,eD,eE,eF]
           refine dK 19 rfl ?_
           simp only[eA,eB,eC,Act.put,eD,eE,eF]
           refine dK 20 rfl ?_
           simp only[eA,eB,eC,Act.put,eD,eE,eF]
           refine dK 21 rfl ?_
           simp only[eA,eB,eC,Act.put,eD,eE,eF]
           refine dK 22 rfl ?_
           simp only[eA,eB,eC,Act.put,eD,eE,eF]
           refine dK 23 rfl ?_
           simp only[eA,eB,eC,Act.put,eD,eE,eF]
           refine dK 24 rfl ?_
           simp only[eA,eB,eC,Act.put,eD,eE,eF]
           refine dK 25 rfl ?_
           simp only[eA,eB,eC,Act.put,eD,eE,eF]
           refine dK 26 rfl ?_
           simp only[eA,eB,eC,Act.put,eD,eE,eF]
           refine jM 27 ?_ rfl (fun w1 hl=>?_) ?_
           rotate_left
           ·obtain⟨hbx,c5,c3,_⟩:=HF.out w1 hl;obtain⟨x0,x1,x2,x3⟩:=hbx.kS;dsimp only at x0 x1 x2 x3;go_simp;try with_reducible rfl
           simp only[eA,eB,eC,Act.put,eD,eE,eF]
           refine aH (by kernel_rfl) (fun w1 hl=>?_) _
           have lY:=(HF.out _ hl).2.2.2
           go_wp2
           go_ret
           exact⟨by rw[HN.out.1,HN.out.2,uQ.out (by rw[xH.out];simp[h1])];rfl,lY⟩
         ·obtain rfl:q=nn:=by omega
          have zi:=ah hok
          clear hok
          go_wp2
          go_ret
          exact⟨by rw[HN.out.1,HN.out.2,zi.out];rfl,hB⟩
   ·have q:(decide (1≤n)&&(decide (n≤65536)&&decide (nn=n)))=false:=by simp[b3]
    rw[q,Bool.false_and]
    have f3:((nn:Int) != (n:Int))=true:=by simp;omega
    have f3':(nn != n)=true:=by simp[b3]
    clear b1 b2 b3 q
    go_enter Tryz.func25,Tryz.ntmps25
    go_wp2
    go_ret
    exact⟨rfl,hB0⟩
end
section
open Go.ChangeShapes Go.WideShapes Go.ChangeAt Go.RowKit Go.Deep
def XV:Value:=.agg (Array.replicate 256 (.int .u8 0)++#[.int .i64 0,.slice none 0 0,.slice none 0 0,.slice none 0 0])
theorem ajW(s:ByteArray):Value.string s=sv s.data.toList:=by
 unfold sv;cases s;rfl
theorem Et{α:Type}[Inhabited α]{n:Nat}{Q:Nat→α→Prop}(h:∀ i,i<n→∃ x,Q i x):∃ f:Nat→α,∀ i,i<n→Q i (f i) :=
 ⟨fun i=>if hi:i<n then (h i hi).choose else default,fun i hi=>by simp only[hi,dif_pos];exact(h i hi).choose_spec⟩
structure aaj(P:Program)(tD tA tU tI tN tL tM tS:TypeId)(fs:Array Field):Prop where
 kS:P.underlying tD=some (.struct fs)
 Qx:fs.map (fun f=>(f.type,f.offset))=#[(tA,0),(tI,256),(tN,257),(tL,258),(tM,259)]
 arr:P.underlying tA=some (.array 256 tU)
 u8:P.underlying tU=some (.int .u8)
 int:P.underlying tI=some (.int .i64)
 rows:P.underlying tN=some (.slice tL)
 ints:P.underlying tL=some (.slice tI)
 strs:P.underlying tM=some (.slice tS)
 str:P.underlying tS=some .string
 cD:P.cellsOf tD=260
 cA:P.cellsOf tA=256
 cU:P.cellsOf tU=1
 cI:P.cellsOf tI=1
 cN:P.cellsOf tN=1
 cL:P.cellsOf tL=1
 cM:P.cellsOf tM=1
 cS:P.cellsOf tS=1
theorem ahy:∃ fs,aaj Tryz.prog 27 22 5 3 23 24 25 9 fs :=
 ⟨_,Tryz.underlying27,by kernel_rfl,Tryz.underlying22,Tryz.underlying5,Tryz.underlying3,Tryz.underlying23,Tryz.underlying24,Tryz.underlying25,Tryz.underlying9,
  by kernel_rfl,by kernel_rfl,by kernel_rfl,by kernel_rfl,by kernel_rfl,by kernel_rfl,by kernel_rfl,by kernel_rfl⟩
section
variable {H:Type} {enc:TypeId×Value→H} {P:Program} {w:World} {qB:Nat} {spare:Nat→Bool} {held:Bool}
theorem x9{α:Type}[Inhabited α]{f:α→Value}{Ok:α→Prop}{t e:TypeId}(hs:P.underlying t=some (.slice e))(hc:P.cellsOf e=1)(fuel:Nat)
  (ih:∀ m c x,DataW.trod enc P w qB spare held m e [c]=some x→∃ y:α,c=f y∧Ok y)
  {c:Value} {x:DataW H×List MemPlace} (h:DataW.trod enc P w qB spare held fuel t [c]=some x) :
  ∃ (a:Option Addr) (cap:Nat) (l:List α),c=.slice a l.length cap∧ak w (.slice a l.length cap) 1 (fun x=>[f x]) l∧∀ i (h:i<l.length),Ok l[i]:=by
 rcases DataW.trod_slice hs h with⟨h0,_⟩ | ⟨a',len,cap,elems,rest,n,hf,h0,_,_,hle,hm,_,hel,_⟩
 ·simp at h0
  exact⟨none,0,[],h0,⟨none,0,0,0,rfl,Nat.le_refl _,by simp[maxLen],.inr ⟨rfl,fun _=>rfl⟩,fun i hi=>by simp at hi⟩,fun i hi=>by simp at hi⟩
 ·simp at h0
  subst h0
  have key:∀ i,i<len→∃ y:α,w.cell? (a'.add i)=some (f y)∧Ok y:=fun i hi=>by
   have h1:=hel i hi
   rw[hc,Nat.mul_one,List.getElem?_eq_getElem (show i<elems.length by omega)] at h1
   obtain⟨cs',h2,h3⟩:=Option.bind_eq_some_iff.1 h1
   obtain⟨h5,_,h4⟩:=World.cells?_some h2
   match cs',h5,h3,h4 with
   | [c],_,h3,h4 =>
    obtain⟨y,rfl,hy⟩:=ih n _ _ h3
    refine⟨y,?_,hy⟩
    have:=h4 0 (by simp)
    simpa [Addr.add] using this
  obtain⟨g,hg⟩:=Et key
  have hspot:0<len→a'.spot=none:=fun h0=>by
   have:=World.cell?_spot (hg 0 h0).1
   simpa [Addr.add] using this
  obtain⟨b,o,spot⟩:=a'
  refine⟨some ⟨b,o,spot⟩,cap,(List.range len).map g,by simp,⟨some ⟨b,o,spot⟩,b,o,cap,by simp,by simpa using hle,hm,?_,fun i hi j u hu=>?_⟩,fun i hi=>?_⟩
  ·by_cases h0:len=0
   ·exact .inr ⟨by simp[h0],fun h=>by cases h⟩
   ·have h1:=hspot (by omega)
    simp only at h1
    exact .inl (by rw[h1])
  ·have hi':i<len:=by simpa using hi
   have:=(hg i hi').1
   have hs2:spot=none:=hspot (by omega)
   subst hs2
   rw[Addr.add_mid] at this
   have hj:j=0:=by have:=(List.getElem?_eq_some_iff.1 hu).1;simpa using this
   subst hj
   simp at hu
   rw[←hu,Nat.mul_one,Nat.add_zero];exact this
  ·have hi':i<len:=by simpa using hi
   simpa using (hg i hi').2
theorem ac4{tD tA tU tI tN tL tM tS:TypeId}{fs:Array Field}(N:aaj P tD tA tU tI tN tL tM tS fs){fuel:Nat}{cs:List Value}{x:DataW H×List MemPlace}(h:DataW.trod enc P w qB spare held fuel tD cs=some x) :
  ∃ (V:aG) (D:bC),cs=V.cells.toList∧iJ w V D∧(∀ b,V.of b<256)∧(∀ x∈D.names,x.length≤9223372036854775807)∧(Lit.int .i64 D.width).wf=true∧(∀ x∈D.label,(Lit.int .i64 x).wf=true)∧∀ r∈D.next,∀ x∈r,(Lit.int .i64 x).wf=true:=by
 obtain⟨xs,n,hfu,_,hl,hxl,hf⟩:=DataW.trod_struct N.kS h
 rw[N.cD] at hl
 have fl:=N.Qx
 obtain⟨f0,f1,f2,f3,f4,rfl⟩:∃ a b c d e,fs=#[a,b,c,d,e]:=by
  obtain⟨l⟩:=fs
  have:l.length=5:=by have:=congrArg Array.size fl;simpa using this
  match l,this with
  | [a,b,c,d,e],_=>exact⟨a,b,c,d,e,rfl⟩
 simp only[List.map_toArray,List.map_cons,List.map_nil,Array.mk.injEq,List.cons.injEq,Prod.mk.injEq,and_true] at fl
 obtain⟨⟨t0,o0⟩,⟨t1,o1⟩,⟨t2,o2⟩,⟨t3,o3⟩,⟨t4,o4⟩⟩:=fl
 have e0:=hf 0 f0 rfl;have e1:=hf 1 f1 rfl;have e2:=hf 2 f2 rfl;have e3:=hf 3 f3 rfl;have e4:=hf 4 f4 rfl
 rw[t0,o0,N.cA] at e0;rw[t1,o1,N.cI] at e1;rw[t2,o2,N.cN] at e2;rw[t3,o3,N.cL] at e3;rw[t4,o4,N.cM] at e4
 simp only[List.size_toArray,List.length_cons,List.length_nil] at hxl
 rw[List.getElem?_eq_getElem (by omega)] at e0 e1 e2 e3 e4
 have one:∀ k,k<260→(cs.drop k).take 1=[cs.getD k default]:=fun k hk=>by
  rw[List.drop_eq_getElem_cons (by omega),List.take_succ_cons,List.take_zero]
  simp[List.getD,List.getElem?_eq_getElem (show k<cs.length by omega)]
 rw[one 256 (by decide)] at e1;rw[one 257 (by decide)] at e2;rw[one 258 (by decide)] at e3;rw[one 259 (by decide)] at e4
 rw[List.drop_zero] at e0
 obtain⟨of,c0,hof⟩:=YL N.arr N.u8 N.cU N.cA e0
 obtain⟨wd,c1,_,hwd⟩:=DataW.trod_int N.int e1
 have ints:∀ m c x,DataW.trod enc P w qB spare held m tI [c]=some x→∃ y:Int,c=.int .i64 y∧(Lit.int .i64 y).wf=true:=fun m c x h=>by
  obtain⟨z,h1,_,h2⟩:=DataW.trod_int N.int h
  simp at h1
  exact⟨z,h1,h2⟩
 have rows:∀ m c x,DataW.trod enc P w qB spare held m tL [c]=some x→∃ y:Value,c=y∧∃ (r:List Int) (a:Option Addr) (cap:Nat),y=.slice a r.length cap∧ak w (.slice a r.length cap) 1 encI r∧∀ x∈r,(Lit.int .i64 x).wf=true:=fun m c x h=>by
  obtain⟨a,cap,l,h1,h2,h3⟩:=x9 (f:=Value.int .i64) N.ints N.cI m ints h
  exact⟨c,rfl,l,a,cap,h1,h2,fun x hx=>by obtain⟨i,hi,rfl⟩:=List.getElem_of_mem hx;exact h3 i hi⟩
 have strs:∀ m c x,DataW.trod enc P w qB spare held m tS [c]=some x→∃ y:List UInt8,c=sv y∧y.length≤9223372036854775807:=fun m c x h=>by
  obtain⟨s,h1,_,h2⟩:=DataW.trod_string N.str h
  simp at h1
  refine⟨s.data.toList,by rw[h1,ajW],?_⟩
  rw[Array.length_toList];exact h2
 obtain⟨na,nc,LP,c2,n1,n2⟩:=x9 (f:=id) N.rows N.cL _ rows e2
 obtain⟨la,lc,lab,c3,l1,l2⟩:=x9 (f:=Value.int .i64) N.ints N.cI _ ints e3
 obtain⟨ma,mc,nms,c4,m1,m2⟩:=x9 (f:=sv) N.strs N.cS _ strs e4
 obtain⟨g,hg⟩:=Et (n:=LP.length) (Q:=fun i (r:List Int)=>∃ (a:Option Addr) (cap:Nat),LP.getD i default=.slice a r.length cap∧ak w (.slice a r.length cap) 1 encI r∧∀ x∈r,(Lit.int .i64 x).wf=true) (fun i hi=>by
  obtain⟨r,a,cap,h1,h2⟩:=n2 i hi
  exact⟨r,a,cap,by simpa [List.getD,List.getElem?_eq_getElem hi] using h1,h2⟩)
 refine⟨⟨of,wd,na,LP.length,nc,la,lab.length,lc,ma,nms.length,mc⟩,⟨of,wd,(List.range LP.length).map g,lab,nms⟩,?_,⟨rfl,rfl,l1,m1,LP,n1,by simp,fun i h1 h2=>?_⟩,hof,fun x hx=>?_,hwd,fun x hx=>?_,fun r hr=>?_⟩
 ·have:cs=cs.take 256++[cs.getD 256 default,cs.getD 257 default,cs.getD 258 default,cs.getD 259 default]:=by
   conv=>lhs;rw[←List.take_append_drop 256 cs]
   congr 1
   apply List.ext_getElem?
   intro i
   rw[List.getElem?_drop]
   match i with
   | 0=>simp[List.getD,List.getElem?_eq_getElem (show 256<cs.length by omega)]
   | 1=>simp[List.getD,List.getElem?_eq_getElem (show 257<cs.length by omega)]
   | 2=>simp[List.getD,List.getElem?_eq_getElem (show 258<cs.length by omega)]
   | 3=>simp[List.getD,List.getElem?_eq_getElem (show 259<cs.length by omega)]
   | i+4=>rw[List.getElem?_eq_none (by omega)];simp
  simp only[List.cons.injEq,and_true] at c1
  rw[this,c0,c1,c2,c3,c4]
  simp[aG.cells]
 ·obtain⟨a,cap,h3,h4,_⟩:=hg i h1
  rw[List.getD,List.getElem?_eq_getElem h1] at h3
  refine⟨a,cap,?_,?_⟩
  ·simpa using h3
  ·simpa using h4
 ·obtain⟨i,hi,rfl⟩:=List.getElem_of_mem hx;exact m2 i hi
 ·obtain⟨i,hi,rfl⟩:=List.getElem_of_mem hx;exact l2 i hi
 ·obtain⟨i,hi,rfl⟩:=List.mem_map.1 hr
  obtain⟨_,_,_,_,h⟩:=hg i (by simpa using hi)
  exact h
end
end
section
open Go.ChangeShapes Go.WideShapes Go.ChangeAt Go.RowKit Go.Deep
section
variable {H:Type} {enc:TypeId×Value→H} {P:Program} {w:World} {qB:Nat} {spare:Nat→Bool} {held:Bool}
theorem aak(d:DataW H):1≤Rows.uptoBulk d:=by
 cases d with
 | lit l=>cases l <;> simp[Rows.uptoBulk]
 | nil=>simp[Rows.uptoBulk]
 | ptr d=>simp[Rows.uptoBulk]
 | slice elems spare=>simp[Rows.uptoBulk]
 | agg parts=>simp[Rows.uptoBulk]
 | iface t d=>simp[Rows.uptoBulk]
 | map entries=>simp[Rows.uptoBulk]
 | held h=>simp[Rows.uptoBulk]
theorem aal(l:List (DataW H)):l.length≤Rows.uptoBulkAll l:=by
 induction l with
 | nil=>simp[Rows.uptoBulkAll]
 | cons x r ih=>have:=aak x;simp only[Rows.uptoBulkAll,List.length_cons];omega
theorem U0{α:Type}[Inhabited α]{ec:α→List Value}{size:Nat}{Ok:α→Prop}{t e:TypeId}(hs:P.underlying t=some (.slice e))(hc:P.cellsOf e=size)(hpos:0<size)(hlen:∀ y,(ec y).length=size)(fuel:Nat)
  (ih:∀ m cs x,DataW.trod enc P w qB spare held m e cs=some x→∃ y:α,cs=ec y∧Ok y)
  {c:Value} {x:DataW H×List MemPlace} (h:DataW.trod enc P w qB spare held fuel t [c]=some x) :
  ∃ (a:Option Addr) (cap:Nat) (l:List α),c=.slice a l.length cap∧ak w (.slice a l.length cap) size ec l∧(∀ i (h:i<l.length),Ok l[i])∧l.length≤Rows.uptoBulk x.1:=by
 rcases DataW.trod_slice hs h with⟨h0,_⟩ | ⟨a',len,cap,elems,rest,n,hf,h0,hx,_,hle,hm,al2,hel,_⟩
 ·simp at h0
  exact⟨none,0,[],h0,⟨none,0,0,0,rfl,Nat.le_refl _,by simp[maxLen],.inr ⟨rfl,fun _=>rfl⟩,fun i hi=>by simp at hi⟩,fun i hi=>by simp at hi,Nat.zero_le _⟩
 ·simp at h0
  subst h0
  have key:∀ i,i<len→∃ y:α,(∀ j u,(ec y)[j]?=some u→w.cell? ((a'.add (i*size)).add j)=some u)∧Ok y:=fun i hi=>by
   have h1:=hel i hi
   rw[hc,List.getElem?_eq_getElem (show i<elems.length by omega)] at h1
   obtain⟨cs',h2,h3⟩:=Option.bind_eq_some_iff.1 h1
   obtain⟨y,rfl,hy⟩:=ih n _ _ h3
   obtain⟨_,_,h4⟩:=World.cells?_some h2
   exact⟨y,fun j u hu=>by rw[h4 j (by have:=(List.getElem?_eq_some_iff.1 hu).1;rwa[hlen] at this)];exact hu,hy⟩
  obtain⟨g,hg⟩:=Et key
  have hspot:0<len→a'.spot=none:=fun h0=>by
   have:0<(ec (g 0)).length:=by rw[hlen];exact hpos
   have:=World.cell?_spot ((hg 0 h0).1 0 _ (List.getElem?_eq_getElem this))
   simpa [Addr.add] using this
  obtain⟨b,o,spot⟩:=a'
  refine⟨some ⟨b,o,spot⟩,cap,(List.range len).map g,by simp,⟨some ⟨b,o,spot⟩,b,o,cap,by simp,by simpa using hle,hm,?_,fun i hi j u hu=>?_⟩,fun i hi=>?_,?_⟩
  ·by_cases h0:len=0
   ·exact .inr ⟨by simp[h0],fun h=>by cases h⟩
   ·have h1:=hspot (by omega)
    simp only at h1
    exact .inl (by rw[h1])
  ·have hi':i<len:=by simpa using hi
   have:=(hg i hi').1 j u (by simpa using hu)
   rw[add_add] at this
   have hs2:spot=none:=hspot (by omega)
   subst hs2
   rw[Addr.add_mid] at this
   rw[Nat.add_assoc];exact this
  ·have hi':i<len:=by simpa using hi
   simpa using (hg i hi').2
  ·rw[hx,List.length_map,List.length_range]
   have:=aal (elems.map (·.1))
   rw[List.length_map] at this
   simp only[Rows.uptoBulk]
   omega
theorem IV{t e:TypeId}{fuel:Nat}{a:Option Addr}{len cap R:Nat}{x:DataW H×List MemPlace}(hs:P.underlying t=some (.slice e))(h:DataW.trod enc P w qB spare held fuel t [.slice a len cap]=some x)
  (hw:(DataW.weights P t x.1).all (·≤R)=true):len*P.bytesOf e≤R:=by
 rcases DataW.trod_slice hs h with⟨h0,_⟩ | ⟨a',len',cap',elems,rest,n,hf,h0,hx,_,hle,hm,al2,hel,_⟩
 ·simp at h0
  rw[h0.2.1,Nat.zero_mul];exact Nat.zero_le _
 ·simp at h0
  obtain⟨rfl,rfl,rfl⟩:=h0
  rw[hx] at hw
  simp only[DataW.weights,hs,List.all_cons,Bool.and_eq_true,decide_eq_true_eq,List.length_map] at hw
  exact Nat.le_trans (Nat.mul_le_mul_right _ (by omega)) hw.1
theorem aam{α:Type}{l:Array α}(h:l.size=3):∃ a b c,l=#[a,b,c]:=by
 obtain⟨l⟩:=l
 match l,h with
 | [a,b,c],_=>exact⟨a,b,c,rfl⟩
structure SS(P:Program)(tT tI:TypeId)(fs:Array Field):Prop where
 tok:P.underlying tT=some (.struct fs)
 Qx:fs.map (fun f=>(f.type,f.offset))=#[(tI,0),(tI,1),(tI,2)]
 int:P.underlying tI=some (.int .i64)
 cT:P.cellsOf tT=3
 cI:P.cellsOf tI=1
theorem ac5{tT tI:TypeId}{fs:Array Field}(N:SS P tT tI fs)(fuel:Nat)(cs:List Value)(x:DataW H×List MemPlace)(h:DataW.trod enc P w qB spare held fuel tT cs=some x) :
  ∃ y:Int×Int×Int,cs=[.int .i64 y.1,.int .i64 y.2.1,.int .i64 y.2.2]∧(Lit.int .i64 y.1).wf=true∧(Lit.int .i64 y.2.1).wf=true∧(Lit.int .i64 y.2.2).wf=true:=by
 obtain⟨xs,n,hfu,_,hl,hxl,hf⟩:=DataW.trod_struct N.tok h
 rw[N.cT] at hl
 obtain⟨f0,f1,f2,rfl⟩:=aam (by have:=congrArg Array.size N.Qx;simpa using this)
 have fl:=N.Qx
 simp only[List.map_toArray,List.map_cons,List.map_nil,Array.mk.injEq,List.cons.injEq,Prod.mk.injEq,and_true] at fl
 obtain⟨⟨t0,o0⟩,⟨t1,o1⟩,⟨t2,o2⟩⟩:=fl
 match cs,hl with
 | [c0,c1,c2],_ =>
 have e0:=hf 0 f0 rfl;have e1:=hf 1 f1 rfl;have e2:=hf 2 f2 rfl
 rw[t0,o0,N.cI] at e0;rw[t1,o1,N.cI] at e1;rw[t2,o2,N.cI] at e2
 simp only[List.size_toArray,List.length_cons,List.length_nil] at hxl
 rw[List.getElem?_eq_getElem (by omega)] at e0 e1 e2
 simp only[List.drop_zero,List.take_succ_cons,List.take_zero,List.drop_succ_cons] at e0 e1 e2
 obtain⟨k,k1,_,k2⟩:=DataW.trod_int N.int e0
 obtain⟨p,p1,_,p2⟩:=DataW.trod_int N.int e1
 obtain⟨q,q1,_,q2⟩:=DataW.trod_int N.int e2
 simp only[List.cons.injEq,and_true] at k1 p1 q1
 subst k1 p1 q1
 exact⟨(k,p,q),rfl,k2,p2,q2⟩
theorem aan{tL tT tI:TypeId}{fs:Array Field}(hL:P.underlying tL=some (.slice tT))(N:SS P tT tI fs){fuel:Nat}{a:Option Addr}{len cap:Nat}{x:DataW H×List MemPlace}(h:DataW.trod enc P w qB spare held fuel tL [.slice a len cap]=some x) :
  ∃ l:List (Int×Int×Int),len=l.length∧ak w (.slice a l.length cap) 3 (fun y=>[.int .i64 y.1,.int .i64 y.2.1,.int .i64 y.2.2]) l∧(∀ y∈l,(Lit.int .i64 y.1).wf=true∧(Lit.int .i64 y.2.1).wf=true∧(Lit.int .i64 y.2.2).wf=true)∧l.length≤Rows.uptoBulk x.1:=by
 obtain⟨a',cap',l,h1,h2,h3,h4⟩:=U0 (Ok:=fun y:Int×Int×Int=>(Lit.int .i64 y.1).wf=true∧(Lit.int .i64 y.2.1).wf=true∧(Lit.int .i64 y.2.2).wf=true) hL N.cT (by decide) (fun y=>rfl) fuel (ac5 N) h
 obtain⟨rfl,rfl,rfl⟩:=Value.slice.inj h1
 exact⟨l,rfl,h2,fun y hy=>by obtain⟨i,hi,rfl⟩:=List.mem_iff_getElem.1 hy;exact h3 i hi,h4⟩
end
end
section
open Go.RowKit
theorem GH(t:Nat):∀ (l m:List (List Int)) (s:Nat),nC t (l++m) s=nC t l s++nC t m (s+l.length)
 | [],m,s=>by rw[List.nil_append];rfl
 | r::l,m,s=>by rw[List.cons_append,nC,nC,GH t l m,List.append_assoc,List.length_cons,show s+(l.length+1)=s+1+l.length by omega]
theorem U1(t:Nat)(r:List Int)(u:Int)(s:Nat):backTo t (r++[u]) s=if u=(t:Int) then backTo t r s++[s] else backTo t r s:=by
 unfold backTo
 rw[List.filter_append,List.map_append]
 by_cases h:u=(t:Int)
 ·rw[if_pos h,List.filter_cons_of_pos (by simpa using h)];rfl
 ·rw[if_neg h,List.filter_cons_of_neg (by simpa using h),List.filter_nil,List.map_nil,List.append_nil]
theorem LQ(t:Nat)(r:List Int)(s:Nat):(backTo t r s).length≤r.length:=by unfold backTo;rw[List.length_map];exact List.length_filter_le _ _
theorem OX(t m:Nat):∀ (l:List (List Int)) (s:Nat),(∀ r∈l,r.length≤m)→(nC t l s).length≤l.length*m
 | [],s,_=>by simp[nC]
 | r::l,s,h=>by
  have h1:=LQ t r s
  have h2:=h r (List.mem_cons_self ..)
  have h3:=OX t m l (s+1) (fun x hx=>h x (List.mem_cons_of_mem _ hx))
  rw[nC,List.length_append,List.length_cons,Nat.succ_mul];omega
theorem GI:∀ (l m:List Int) (s:Nat),iF (l++m) s=iF l s++iF m (s+l.length)
 | [],m,s=>by rw[List.nil_append];rfl
 | k::l,m,s=>by
  rw[List.cons_append,iF,iF,GI l m,List.length_cons,show s+(l.length+1)=s+1+l.length by omega]
  split
  ·rfl
  ·rw[List.cons_append]
theorem GK:∀ (l:List Int) (s:Nat),(iF l s).length≤l.length
 | [],_=>by simp[iF]
 | k::l,s=>by have:=GK l (s+1);rw[iF];split <;> simp only[List.length_cons] <;> omega
def fE(D:bC)(k j t:Nat):List Nat:=if t<D.label.length then nC t (D.next.take k) 0++backTo t ((D.next.getD k []).take j) k else if t=D.label.length then iF (D.label.take k) 0 else []
theorem aao(D:bC):fE D 0 0=fun _=>[]:=by
 funext t
 unfold fE
 rw[List.take_zero,List.take_zero,List.take_zero]
 simp[nC,backTo,iF]
theorem Ii{D:bC}{t:Nat}(k j:Nat)(h:t<D.label.length):fE D k j t=nC t (D.next.take k) 0++backTo t ((D.next.getD k []).take j) k:=if_pos h
theorem Dx(D:bC)(k j:Nat):fE D k j D.label.length=iF (D.label.take k) 0:=(if_neg (Nat.lt_irrefl _)).trans (if_pos rfl)
theorem Dy{D:bC}{t:Nat}(k j:Nat)(h:D.label.length<t):fE D k j t=[]:=(if_neg (by omega)).trans (if_neg (by omega))
theorem aap{D:bC}{k j u:Nat}{r:List Int}(hk:D.next[k]?=some r)(hj:j<r.length)(hu:r[j]=(u:Int))(hun:u<D.label.length):fE D k (j+1)=jY (fE D k j) u (fE D k j u++[k]):=by
 have hg:D.next.getD k []=r:=by rw[List.getD_eq_getElem?_getD,hk];rfl
 funext t
 rcases Nat.lt_trichotomy t D.label.length with h | h | h
 ·have e0:fE D k (j+1) t=if u=t then fE D k j t++[k] else fE D k j t:=by
   rw[Ii _ _ h,Ii _ _ h,hg,List.take_succ_eq_append_getElem hj,U1,hu]
   by_cases e:u=t
   ·rw[if_pos (by omega),if_pos e,List.append_assoc]
   ·rw[if_neg (by omega),if_neg e]
  rw[e0]
  by_cases e:u=t
  ·subst e;rw[if_pos rfl,lH]
  ·rw[if_neg e,kF _ _ (fun a=>e a.symm)]
 ·subst h;rw[kF _ _ (by omega),Dx,Dx]
 ·rw[kF _ _ (by omega),Dy _ _ h,Dy _ _ h]
theorem ac6{D:bC}{k:Nat}{r:List Int}(hk:D.next[k]?=some r)(hkl:k<D.label.length):fE D (k+1) 0=if labS D k≠0 then jY (fE D k r.length) D.label.length (fE D k r.length D.label.length++[k]) else fE D k r.length:=by
 have hg:D.next.getD k []=r:=by rw[List.getD_eq_getElem?_getD,hk];rfl
 obtain⟨hk2,hr⟩:=List.getElem?_eq_some_iff.1 hk
 have hb:∀ t,t<D.label.length→fE D (k+1) 0 t=fE D k r.length t:=fun t ht=>by
  rw[Ii _ _ ht,Ii _ _ ht,hg,List.take_succ_eq_append_getElem hk2,GH,List.length_take,Nat.min_eq_left (by omega),Nat.zero_add,hr,List.take_zero,List.take_length]
  simp[nC,backTo]
 have he:iF (D.label.take (k+1)) 0=if labS D k≠0 then iF (D.label.take k) 0++[k] else iF (D.label.take k) 0:=by
  rw[List.take_succ_eq_append_getElem hkl,GI,List.length_take,Nat.min_eq_left (by omega),Nat.zero_add,rE.SQ hkl]
  by_cases h:D.label[k]=0
  ·rw[if_neg (by simpa using h)];simp[iF,h]
  ·rw[if_pos h];simp[iF,h]
 funext t
 rcases Nat.lt_trichotomy t D.label.length with h | h | h
 ·rw[hb t h]
  split
  ·rw[kF _ _ (by omega)]
  ·rfl
 ·subst h
  rw[Dx,he]
  split
  ·rw[lH,Dx]
  ·rw[Dx]
 ·rw[Dy _ _ h]
  split
  ·rw[kF _ _ (by omega),Dy _ _ h]
  ·rw[Dy _ _ h]
theorem SV{D:bC}(hw:rE D)(k j t:Nat)(hk:k≤D.label.length):(fE D k j t).length≤33554432:=by
 have hwd:=hw.wd
 have hle:=hw.le
 have hrl:∀ r∈D.next,r.length≤256:=fun r hr=>by have:=hw.NS r hr;omega
 unfold fE
 by_cases ht:t<D.label.length
 ·rw[if_pos ht,List.length_append]
  have h1:=OX t 256 (D.next.take k) 0 (fun r hr=>hrl r (List.mem_of_mem_take hr))
  have h2:=LQ t ((D.next.getD k []).take j) k
  have h3:((D.next.getD k []).take j).length≤256:=by
   rw[List.length_take]
   refine Nat.le_trans (Nat.min_le_right _ _) ?_
   rw[List.getD_eq_getElem?_getD]
   cases h:D.next[k]? with
   | none=>simp
   | some r=>exact hrl r (List.mem_of_getElem? h)
  have h4:(D.next.take k).length≤65536:=Nat.le_trans (List.length_take_le _ _) (by omega)
  have h5:(D.next.take k).length*256≤65536*256:=Nat.mul_le_mul_right _ h4
  omega
 ·rw[if_neg ht]
  split
  ·have:=GK (D.label.take k) 0
   have h4:(D.label.take k).length≤k:=List.length_take_le _ _
   omega
  ·simp
theorem aaq{D:bC}(hw:rE D):(∀ t,t<D.label.length→fE D D.label.length 0 t=vU D t)∧fE D D.label.length 0 D.label.length=nU D:=by
 constructor
 ·intro t ht
  unfold fE vU
  rw[if_pos ht,List.take_of_length_le (by rw[hw.nx];exact Nat.le_refl _),List.take_zero]
  simp[backTo]
 ·unfold fE nU
  rw[if_neg (Nat.lt_irrefl _),if_pos rfl,List.take_length]
end
section
open Go.RowKit
def stepD(D:bC)(s j:Nat):Nat:=((D.next.getD s []).getD j 0).toNat
theorem ac7(D:bC)(s:Nat)(b:UInt8):oW D s b=stepD D s (D.of b.toNat):=rfl
structure yg(w:World)(V:aG)(D:bC)(n wd lb lo nb no:Nat)(rb ro rc:Nat→Nat):Prop where
 nl:D.label.length=n
 ln:V.ln=n
 nn:V.nn=n
 la:V.la=some ⟨lb,lo,none⟩
 na:V.na=some ⟨nb,no,none⟩
 wide:D.width=(wd:Nat)
 wdb:1≤wd∧wd≤256
 nb1:1≤n∧n≤65536
 lc:n≤V.lc∧V.lc≤9223372036854775807
 nc:n≤V.nc∧V.nc≤9223372036854775807
 lab:∀ k,k<n→∀ u:World,Below w.heap.size w u→u.cell? ⟨lb,lo+k,none⟩=some (.int .i64 (labS D k))
 row:∀ s,s<n→∀ u:World,Below w.heap.size w u→u.cell? ⟨nb,no+s,none⟩=some (.slice (some ⟨rb s,ro s,none⟩) wd (rc s))
 cap:∀ s,s<n→wd≤rc s∧rc s≤9223372036854775807
 cel:∀ s,s<n→∀ j,j<wd→∀ u:World,Below w.heap.size w u→u.cell? ⟨rb s,ro s+j,none⟩=some (.int .i64 (stepD D s j:Nat))
 lt:∀ s,s<n→∀ j,j<wd→stepD D s j<n
 of:∀ b,b<256→D.of b<wd
 al3:∀ s,s<n→0≤labS D s∧labS D s≤64
 blk:lb<w.heap.size∧nb<w.heap.size∧∀ s,s<n→rb s<w.heap.size
theorem yg.al4{w:World}{V:aG}{D:bC}{n wd lb lo nb no:Nat}{rb ro rc:Nat→Nat}(h:yg w V D n wd lb lo nb no rb ro rc){s:Nat}(hs:s<n)(b:UInt8):oW D s b<n:=h.lt s hs _ (h.of _ b.toNat_lt)
theorem yg.later{w w2:World}{V:aG}{D:bC}{n wd lb lo nb no:Nat}{rb ro rc:Nat→Nat}(h:yg w V D n wd lb lo nb no rb ro rc)(hb:Below w.heap.size w w2):yg w2 V D n wd lb lo nb no rb ro rc :=
 have hs:=hb.size
 ⟨h.nl,h.ln,h.nn,h.la,h.na,h.wide,h.wdb,h.nb1,h.lc,h.nc,fun k hk u hu=>h.lab k hk u (hb.trans (hu.mono hs)),fun k hk u hu=>h.row k hk u (hb.trans (hu.mono hs)),h.cap,fun k hk j hj u hu=>h.cel k hk j hj u (hb.trans (hu.mono hs)),h.lt,h.of,h.al3,
  ⟨Nat.lt_of_lt_of_le h.blk.1 hs,Nat.lt_of_lt_of_le h.blk.2.1 hs,fun s h1=>Nat.lt_of_lt_of_le (h.blk.2.2 s h1) hs⟩⟩
theorem machC{w:World}{V:aG}{D:bC}(h:iJ w V D)(hw:rE D):∃ n wd lb lo nb no rb ro rc,yg w V D n wd lb lo nb no rb ro rc:=by
 obtain⟨_,hwd,h3,_,rows,h5,h6,h7⟩:=h
 obtain⟨lb,lo,e3,c3,c3',a3,k3⟩:=h3.dh
 obtain⟨nb,no,e5,c5,SE,a5,k5⟩:=h5.dh
 have hpos:=hw.pos
 have hnx:=hw.nx
 have apW:=hw.of 0 (by decide)
 obtain⟨wd,hwd2⟩:∃ wd:Nat,D.width=(wd:Nat):=⟨D.width.toNat,by have:=hw.wd;omega⟩
 have hrow:∀ s,∃ rb ro rc,s<D.label.length→(rows.getD s (.int .i64 0)=.slice (some ⟨rb,ro,none⟩) wd rc)∧wd≤rc∧rc≤9223372036854775807∧∀ j,j<wd→∀ u:World,Below w.heap.size w u→u.cell? ⟨rb,ro+j,none⟩=some (.int .i64 (stepD D s j:Nat)):=fun s=>by
  by_cases hs:s<D.label.length
  ·have hs1:s<rows.length:=by omega
   have hs2:s<D.next.length:=by omega
   obtain⟨a,c,hr,hsl⟩:=h7 s hs1 hs2
   have hl:=hw.NS _ (List.getElem_mem hs2)
   have zW:(D.next[s]).length=wd:=by omega
   obtain⟨rb,ro,e,q1,q2,ha,hc⟩:=hsl.dh
   obtain rfl:=ha 0 (by omega)
   refine⟨rb,ro,c,fun _=>⟨?_,by omega,q2,fun j hj u hu=>?_⟩⟩
   ·rw[List.getD_eq_getElem?_getD,List.getElem?_eq_getElem hs1,Option.getD_some,hr,zW]
   ·have hj2:j<(D.next[s]).length:=by omega
    rw[hc j hj2 u hu]
    have ht:=hw.row _ (List.getElem_mem hs2) _ (List.getElem_mem hj2)
    have e:((stepD D s j:Nat):Int)=D.next[s][j]:=by
     unfold stepD
     simp only[List.getD_eq_getElem?_getD,List.getElem?_eq_getElem hs2,Option.getD_some,List.getElem?_eq_getElem hj2]
     omega
    rw[e]
  ·exact⟨0,0,0,fun h=>absurd h hs⟩
 have hr1:∃ f:Nat→Nat×Nat×Nat,∀ s,s<D.label.length→(rows.getD s (.int .i64 0)=.slice (some ⟨(f s).1,(f s).2.1,none⟩) wd (f s).2.2)∧wd≤(f s).2.2∧(f s).2.2≤9223372036854775807∧∀ j,j<wd→∀ u:World,Below w.heap.size w u→u.cell? ⟨(f s).1,(f s).2.1+j,none⟩=some (.int .i64 (stepD D s j:Nat)):=by
  have:∀ s,∃ p:Nat×Nat×Nat,s<D.label.length→(rows.getD s (.int .i64 0)=.slice (some ⟨p.1,p.2.1,none⟩) wd p.2.2)∧wd≤p.2.2∧p.2.2≤9223372036854775807∧∀ j,j<wd→∀ u:World,Below w.heap.size w u→u.cell? ⟨p.1,p.2.1+j,none⟩=some (.int .i64 (stepD D s j:Nat)):=fun s=>by
   obtain⟨rb,ro,rc,h⟩:=hrow s
   exact⟨(rb,ro,rc),h⟩
  exact Classical.axiomOfChoice this
 obtain⟨f,hf⟩:=hr1
 have hcl:∀ s,s<D.label.length→∀ u:World,Below w.heap.size w u→u.cell? ⟨nb,no+s,none⟩=some (.slice (some ⟨(f s).1,(f s).2.1,none⟩) wd (f s).2.2):=fun s hs u hu=>by
  have hs1:s<rows.length:=by omega
  rw[k5 s hs1 u hu,←(hf s hs).1,List.getD_eq_getElem?_getD,List.getElem?_eq_getElem hs1];rfl
 have hst:∀ s,s<D.label.length→∀ j,j<wd→stepD D s j<D.label.length:=fun s hs j hj=>by
  have hs2:s<D.next.length:=by omega
  have hl:=hw.NS _ (List.getElem_mem hs2)
  have hj2:j<(D.next[s]).length:=by omega
  have ht:=hw.row _ (List.getElem_mem hs2) _ (List.getElem_mem hj2)
  unfold stepD
  simp only[List.getD_eq_getElem?_getD,List.getElem?_eq_getElem hs2,Option.getD_some,List.getElem?_eq_getElem hj2]
  omega
 refine⟨D.label.length,wd,lb,lo,nb,no,fun s=>(f s).1,fun s=>(f s).2.1,fun s=>(f s).2.2,rfl,e3,by omega,a3 0 (by omega),a5 0 (by omega),hwd2,⟨by omega,by have:=hw.wd;omega⟩,⟨hpos,hw.le⟩,⟨by omega,c3'⟩,⟨by omega,SE⟩,fun k hk u hu=>?_,hcl,fun s hs=>⟨(hf s hs).2.1,(hf s hs).2.2.1⟩,fun s hs=>(hf s hs).2.2.2,hst,fun b hb=>by have:=hw.of b hb;omega,fun s hs=>?_,?_,?_,fun s hs=>?_⟩
 ·rw[rE.SQ hk];exact k3 k hk u hu
 ·rw[rE.SQ hs]
  have:=hw.lab _ (List.getElem_mem hs)
  have:=hw.names
  omega
 ·exact World.block_lt_of_cell? w _ (k3 0 (by omega) w (Below.refl _ _))
 ·exact World.block_lt_of_cell? w _ (hcl 0 (by omega) w (Below.refl _ _))
 ·exact World.block_lt_of_cell? w _ ((hf s hs).2.2.2 0 (by omega) w (Below.refl _ _))
end
section
open Go.RowKit
theorem yg.run{w:World}{V:aG}{D:bC}{n wd lb lo nb no:Nat}{rb ro rc:Nat→Nat}(h:yg w V D n wd lb lo nb no rb ro rc):∀ (v:List UInt8) {s:Nat},s<n→vT D s v<n
 | [],_,hs=>hs
 | b::v,_,hs=>h.run v (h.al4 hs b)
end
end Go.Proofs.YtengfapcaaacaaaGreatDoor
