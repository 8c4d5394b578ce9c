/- The texts of E20, in few letters (mini.py). -/
import Derived.Test.YtengfapcaaacaaaGreatDoorF19
import Derived.Test.YtengfapcaaacaaaGreatDoorF8
set_option linter.unusedVariables false
set_option linter.unusedSimpArgs false
set_option maxRecDepth 20000
set_option maxHeartbeats 3200000
namespace Go.Proofs.YtengfapcaaacaaaGreatDoor
section
open Go.RowKit
theorem adU(l:List (List UInt8))(s:List UInt8)(q:Nat)(h:q<l.length):(l.take (q+1)).contains s=((l.take q).contains s||(l[q]==s)):=by
 rw[List.take_succ_eq_append_getElem h,Bool.eq_iff_iff,Bool.or_eq_true,List.contains_iff_mem,List.contains_iff_mem,List.mem_append,List.mem_singleton,beq_iff_eq]
 exact or_congr Iff.rfl eq_comm
theorem aa3(l:List (List UInt8))(s:List UInt8)(q k:Nat)(hq:q<k)(h:q<l.length)(e:l[q]=s):(l.take k).contains s=true:=by
 rw[List.contains_iff_mem]
 have:(l.take k)[q]'(by simp;omega)=s:=by simpa using e
 exact this▸List.getElem_mem _
theorem nY(V:aA)(D:aQ)(w:World)(h:aZ w V D)(hof:∀ b,V.of b<256)(hl:∀ x∈D.names,x.length≤9223372036854775807):Calls Tryz.prog 25 #[.agg V.cells] w (bF w (.bool (dM D))):=by
 obtain⟨of,wd,na,nn,nc,la,n,lc,ma,mn,mc⟩:=V
 obtain⟨of',wd',nx,lb,nm⟩:=D
 have hst:=Ik ⟨of',wd',nx,lb,nm⟩
 have hfa:=F6 ⟨of',wd',nx,lb,nm⟩
 obtain⟨h0,h1,h3,h4,rows,h5,h6,h7⟩:=h
 dsimp only at *
 subst h0
 subst h1
 obtain⟨b5,o5,e5,c5,SE,a5,k5⟩:=h5.bU
 obtain⟨b3,o3,e3,c3,c3',a3,k3⟩:=h3.bU
 obtain⟨b4,o4,e4,c4,Il,a4,k4⟩:=h4.bU
 have hnb:n≤9223372036854775807:=by omega
 have Ju:nn≤9223372036854775807:=by omega
 have hmb:mn≤9223372036854775807:=by omega
 have hpr:=fun w1=>U4 of hof wd w1
 have hr:dM ⟨of,wd,nx,lb,nm⟩=((decide (1≤n)&&(decide (n≤65536)&&decide (nn=n)))&&((jR (aT (aH (aY of))) of&&((iq (aH (aY of)):Nat)==wd))&&((decide (mn≤64)&&oJ nm mn)&&kW ⟨of,wd,nx,lb,nm⟩ nx.length))):=by
  rw[e3,e4,show nn=nx.length by omega];rfl
 rw[hr]
 have Io:=ah hpr
 clear hpr hr h3 h4 h5 hof
 generalize hp:(jR (aT (aH (aY of))) of&&((iq (aH (aY of)):Nat)==wd))=p at *
 have hbx:=Box.new w (aA.cells ⟨of,wd,na,nn,nc,la,n,lc,ma,mn,mc⟩) 27
 have hB0:=aj w (.cells (aA.cells ⟨of,wd,na,nn,nc,la,n,lc,ma,mn,mc⟩) 27)
 obtain⟨x0,x1,x2,x3⟩:=hbx.ig
 dsimp only at x0 x1 x2 x3
 have HH:=ah (And.intro h6 h7)
 have HST:=ah hst
 have Ez:=ah hfa
 have HL:=ah hl
 have HE:=ah (And.intro e5 (And.intro e3 e4))
 have HA:=ah (And.intro a5 (And.intro a3 a4))
 have HK:=ah (And.intro k5 (And.intro k3 k4))
 clear h6 h7 hst hfa hl e5 e3 e4 a5 a3 a4 k5 k3 k4 hp
 by_cases b1:n<1
 ·have e1:decide ((n:Int)<1)=true:=by simp;omega
  have q:(decide (1≤n)&&(decide (n≤65536)&&decide (nn=n)))=false:=by simp;omega
  rw[q,Bool.false_and]
  clear b1 q
  go_enter Tryz.func25,Tryz.ntmps25
  go_wp2
  go_ret
  exact⟨rfl,hB0⟩
 ·have e1:decide ((n:Int)<1)=false:=by simp;omega
  by_cases b2:65536<n
  ·have e2:decide (65536<(n:Int))=true:=by simp;omega
   have q:(decide (1≤n)&&(decide (n≤65536)&&decide (nn=n)))=false:=by simp;omega
   rw[q,Bool.false_and]
   clear b1 b2 q
   go_enter Tryz.func25,Tryz.ntmps25
   go_wp2
   go_ret
   exact⟨rfl,hB0⟩
  ·have e2:decide (65536<(n:Int))=false:=by simp;omega
   by_cases b3:nn=n
   ·have q:(decide (1≤n)&&(decide (n≤65536)&&decide (nn=n)))=true:=by simp;omega
    rw[q,Bool.true_and]
    have f3:((nn:Int) != (n:Int))=false:=by simp[b3]
    have f3':(nn != n)=false:=by simp[b3]
    by_cases b4:64<mn
    ·have e4:decide (64<(mn:Int))=true:=by simp;omega
     have q2:decide (mn≤64)=false:=by simp;omega
     rw[q2,Bool.false_and,Bool.false_and,Bool.and_false]
     clear b1 b2 b4 q q2 b3
     go_enter Tryz.func25,Tryz.ntmps25
     go_wp2
     go_ret
     exact⟨rfl,hB0⟩
    ·have e4:decide (64<(mn:Int))=false:=by simp;omega
     have q2:decide (mn≤64)=true:=by simp;omega
     rw[q2,Bool.true_and]
     clear q q2 b1 b2 b4
     cases p with
     | false =>
      rw[Bool.false_and]
      clear b3
      go_enter Tryz.func25,Tryz.ntmps25
      go_wp2_with (first | (refine gK (by rfl) 22 _ rfl w.heap.size rfl hbx Tryz.underlying22 rfl (aK _) ?_) | (go_at_call 59;go_must (refine(Io.out _).mono ?_;rintro e w1 ⟨rfl,hB1⟩)))
      go_ret
      exact⟨rfl,hB0.trans (hB1.mono (by simp))⟩
     | true =>
      rw[Bool.true_and]
      obtain rfl:nn=n:=b3
      clear f3 f3'
      go_enter Tryz.func25,Tryz.ntmps25
      go_wp2_with (first | (refine gK (by rfl) 22 _ rfl w.heap.size rfl hbx Tryz.underlying22 rfl (aK _) ?_) | (go_at_call 59;go_must (refine(Io.out _).mono ?_;rintro e w1 ⟨rfl,hB1⟩;have gq:=hbx.kept hB1;have hB1:=hB0.trans (hB1.mono (by simp));clear hB0 hbx x0 x1 x2 x3)))
      go_loopw [4] (fun i wr=>∃ k:Nat,k≤mn∧i=.int .i64 k∧oJ nm k=true∧Box wr w.heap.size (aA.cells ⟨of,wd,na,nn,nc,la,nn,lc,ma,mn,mc⟩) 27∧Below w.heap.size w wr) (fun i _=>mn - (intOf i).toNat)
      case atStart=>exact⟨0,Nat.zero_le _,rfl,rfl,gq,hB1⟩
      case round =>
       clear gq hB1
       obtain⟨k,hk,rfl,hok,hbx,hB⟩:=hrel
       obtain⟨x0,x1,x2,x3⟩:=hbx.ig
       dsimp only at x0 x1 x2 x3
       by_cases hlt:k<mn
       ·have hk2:k<nm.length:=by rw[←HE.out.2.2];exact hlt
        obtain rfl:=HA.out.2.2 k hk2
        have c4:=HK.out.2.2 k hk2 wr hB
        have hnm:=fun w=>KD nm[k] w (HL.out _ (List.getElem_mem hk2))
        have hnx:nameAt nm k=(jh nm[k]&&!((nm.take k).contains nm[k])):=by
         unfold nameAt;rw[List.getD_eq_getElem?_getD,List.getElem?_eq_getElem hk2];rfl
        have hsucc:=F5 nm k
        rw[hok,Bool.true_and] at hsucc
        have hfalse:=Ew nm k mn hlt
        generalize hs:nm[k]=s at *
        have oW:=ah hnm
        have F8:=ah hnx
        have Ba:=ah hsucc
        have wH:=ah hfalse
        have HS:=ah hs
        have hk0:(0:Int)≤(k:Int):=by omega
        have hkm:(k:Int)<(mn:Int):=by omega
        clear hnm hnx hsucc hfalse hok hs
        cases hn:jh s with
        | false =>
         have hx:nameAt nm k=false:=by rw[F8.out,hn];rfl
         rw[hn] at oW
         have HX:=ah hx
         clear hx hn
         go_wp2_with (go_at_call 46;go_must (refine(oW.out _).mono ?_;rintro e w1 ⟨rfl,hB1⟩;have hB2:=hB.trans (hB1.mono hB.size)))
         go_ret
         exact⟨by rw[wH.out HX.out];rfl,hB2⟩
        | true =>
         rw[hn] at oW
         have HX:Hid (nameAt nm k=!((nm.take k).contains s)):=ah (by rw[F8.out,hn];rfl)
         clear hn
         go_wp2_with (go_at_call 46;go_must (refine(oW.out _).mono ?_;rintro e w1 ⟨rfl,hB1⟩;have hB2:=hB.trans (hB1.mono hB.size);have hbx2:=hbx.kept hB1))
         clear hbx hB hB1
         go_loopw [5] (fun i wr=>∃ q:Nat,q≤k∧i=.int .i64 q∧(nm.take q).contains s=false∧Box wr w.heap.size (aA.cells ⟨of,wd,na,nn,nc,la,nn,lc,some ⟨b4,o4,none⟩,mn,mc⟩) 27∧Below w.heap.size w wr) (fun i _=>k - (intOf i).toNat)
         case atStart=>exact⟨0,Nat.zero_le _,rfl,rfl,hbx2,hB2⟩
         case round =>
          clear hbx2 hB2 x0 x1 x2 x3 c4
          obtain⟨q,hq,rfl,hno,hbx,hB⟩:=hrel
          by_cases hlt2:q<k
          ·have hq2:q<nm.length:=by omega
           have ck:=HK.out.2.2 k hk2 wr hB
           have cq:=HK.out.2.2 q hq2 wr hB
           have hth:=adU nm s q hq2
           have htf:=aa3 nm s q k hlt2 hq2
           rw[hno,Bool.false_or] at hth
           rw[HS.out] at ck
           generalize nm[q]=r at *
           have HTH:=ah hth
           have HTF:=ah htf
           have HF:Hid (∀ v,Later wr.drew v→Box v w.heap.size (aA.cells ⟨of,wd,na,nn,nc,la,nn,lc,some ⟨b4,o4,none⟩,mn,mc⟩) 27∧v.cell? ⟨b4,o4+k,none⟩=some (sv s)∧v.cell? ⟨b4,o4+q,none⟩=some (sv r)∧Below w.heap.size w v):=ah fun v hl =>
            ⟨hbx.drew.kept hl,(Below.cell hl (World.block_lt_of_cell? wr _ ck)).trans ck,(Below.cell hl (World.block_lt_of_cell? wr _ cq)).trans cq,hB.drew.trans (Below.mono hl hB.size)⟩
           have hq0:(0:Int)≤(q:Int):=by omega
           have hqk:(q:Int)<(k:Int):=by omega
           have hqm:(q:Int)<(mn:Int):=by omega
           clear hth htf hno ck cq hbx hB
           go_wp2_with fail
           refine aO (R:=Later) 11 (by kernel_rfl) ?_
           refine pl [0,1,2,3,4,5,6,7,8,9,10] ?_
           repeat
            refine dR ?_ rfl (fun w1 hl=>?_) ?_
            rotate_left
            ·obtain⟨hbx,c4,c5,_⟩:=HF.out w1 hl;obtain⟨x0,x1,x2,x3⟩:=hbx.ig;dsimp only at x0 x1 x2 x3;go_simp;try with_reducible rfl
            simp only[eA,eB,eC,Act.put,eD,eE,eF]
           refine bV ?_
           refine aV (by kernel_rfl) (fun w1 hl=>?_) _
           have dw:=(HF.out _ hl).2.2.2
           have Jt:=(HF.out _ hl).1
           clear hl
           cases hrs:r==s with
           | true =>
            have hr2:r=s:=by simpa using hrs
            have hx:nameAt nm k=false:=by rw[HX.out,HTF.out hr2];rfl
            have SQ:=ah hx
            clear hx hr2
            go_wp2
            go_ret
            exact⟨by rw[wH.out SQ.out];rfl,dw⟩
           | false =>
            have SQ:=ah hrs
            go_wp2
            go_roundw
            case rel=>exact⟨q+1,hlt2,by go_num,by rw[HTH.out,SQ.out],Jt,dw⟩
            case measure=>simp[intOf];omega
          ·obtain rfl:q=k:=by omega
           have hx:nameAt nm q=true:=by rw[HX.out,hno];rfl
           have SQ:=ah hx
           clear hno hx
           go_wp2
           go_roundw
           case rel=>exact⟨q+1,hlt,by go_num,by rw[Ba.out,SQ.out],hbx,hB⟩
           case measure=>simp[intOf];omega
       ·obtain rfl:k=mn:=by omega
        have hok0:=hok
        clear hok x0 x1 x2 x3
        have SG:kW ⟨of,wd,nx,lb,nm⟩ 0=true:=rfl
        have hlen:nx.length=nn:=by have:=HE.out.1;have:=HH.out.1;omega
        have HN:=ah (And.intro hok0 hlen)
        have hat:=fun q=>@SC of wd nx lb nm nn k HE.out.2.1 HE.out.2.2 q
        generalize kW ⟨of,wd,nx,lb,nm⟩=rt at *
        generalize vK ⟨of,wd,nx,lb,nm⟩=ro at *
        have HAT:=ah hat
        obtain⟨x0,x1,x2,x3⟩:=hbx.ig
        dsimp only at x0 x1 x2 x3
        clear hat
        go_wp2
        go_loopw [6] (fun i wr=>∃ q:Nat,q≤nn∧i=.int .i64 q∧rt q=true∧Box wr w.heap.size (aA.cells ⟨of,wd,na,nn,nc,la,nn,lc,ma,k,mc⟩) 27∧Below w.heap.size w wr) (fun i _=>nn - (intOf i).toNat)
        case atStart=>exact⟨0,Nat.zero_le _,rfl,SG,hbx,hB⟩
        case round =>
         clear hbx hB SG x0 x1 x2 x3
         obtain⟨q,hq,rfl,hok,hbx,hB⟩:=hrel
         by_cases hlt:q<nn
         ·have hk1:q<nx.length:=by omega
          have hk2:q<lb.length:=by have:=HE.out.2.1;omega
          have hk3:q<rows.length:=by have:=HE.out.1;omega
          obtain rfl:=HA.out.1 q hk3
          obtain rfl:=HA.out.2.1 q hk2
          have c5:=HK.out.1 q hk3 wr hB
          have c3:=HK.out.2.1 q hk2 wr hB
          have hro:=HAT.out q hk1 hk2
          obtain⟨ra,rc,hr,hrs⟩:=HH.out.2 q hk3 hk1
          rw[hr] at c5
          have hsucc:=HST.out q
          rw[hok,Bool.true_and] at hsucc
          have hfalse:=Ez.out q nn hlt
          have HC5:Hid (∀ v,Below w.heap.size w v→v.cell? ⟨b5,o5+q,none⟩=some (.slice ra nx[q].length rc)):=ah fun v hv=>by have:=HK.out.1 q hk3 v hv;rw[this,hr]
          generalize nx[q]=row at *
          generalize lb[q]=lab at *
          have EC:=ah hro
          have Ba:=ah hsucc
          have wH:=ah hfalse
          have hk0:(0:Int)≤(q:Int):=by omega
          have hkm:(q:Int)<(nn:Int):=by omega
          clear hro hr hsucc hfalse hok hlen hok0
          have hrl:row.length≤9223372036854775807:=by obtain⟨_,_,_,h1,h2,_⟩:=hrs.bU;omega
          obtain⟨b6,o6,_,_,_,a6,k6⟩:=hrs.bU
          have hra:=fun q=>Ld row nn q
          have hrz:=rowAt_all row nn
          have SH:=fun q h hp=>all_false (r:=row) (p:=fun t=>decide (0≤t)&&decide (t<(nn:Nat))) (k:=q) h hp
          obtain⟨r,hrr⟩:∃ r,row.length=r:=⟨_,rfl⟩
          rw[hrr] at hrl
          have HRR:=ah hrr
          have kC:=ah hra
          have HRZ:=ah hrz
          have HRF:=ah SH
          have HA6:=ah a6
          have HK6:=ah k6
          rw[hrr] at c5 HC5
          have wV:Hid (ro q=((decide (((r:Nat):Int)=wd)&&(decide (0≤lab)&&decide (lab≤(k:Nat))))&&row.all fun t=>decide (0≤t)&&decide (t<(nn:Nat)))):=ah (by rw[EC.out,HRR.out])
          have HF:Hid (∀ v,Later wr.drew v→Box v w.heap.size (aA.cells ⟨of,wd,some ⟨b5,o5,none⟩,nn,nc,some ⟨b3,o3,none⟩,nn,lc,ma,k,mc⟩) 27∧v.cell? ⟨b5,o5+q,none⟩=some (.slice ra r rc)∧v.cell? ⟨b3,o3+q,none⟩=some (.int .i64 lab)∧Below w.heap.size w v):=ah fun v hl =>
           ⟨hbx.drew.kept hl,(Below.cell hl (World.block_lt_of_cell? wr _ c5)).trans c5,(Below.cell hl (World.block_lt_of_cell? wr _ c3)).trans c3,hB.drew.trans (Below.mono hl hB.size)⟩
          clear hrr hra hrz SH a6 k6 EC
          clear hbx hB hrs
          have SE:=(HF.out wr.drew (Below.refl _ _)).2.1
          have c3':=(HF.out wr.drew (Below.refl _ _)).2.2.1
          by_cases h1:(r:Int)=wd
          ·have g1:((r:Int) != wd)=false:=by simp[h1]
           by_cases h2:lab<0
           ·have g2:decide (lab<0)=true:=by simp[h2]
            go_wp2_with fail
            refine aO (R:=Later) 28 (by kernel_rfl) ?_
            refine pl [0,1,2,3,4,5,6,7,8,9,10,11,12,13,14,15,16,17] ?_
            repeat
             refine dR ?_ rfl (fun w1 hl=>?_) ?_
             rotate_left
             ·obtain⟨hbx,c5,c3,_⟩:=HF.out w1 hl;obtain⟨x0,x1,x2,x3⟩:=hbx.ig;dsimp only at x0 x1 x2 x3;go_simp;try with_reducible rfl
             simp only[eA,eB,eC,Act.put,eD,eE,eF]
            refine bV ?_
            refine dP 18 rfl ?_
            simp only[eA,eB,eC,Act.put,eD,eE,eF]
            refine dP 19 rfl ?_
            simp only[eA,eB,eC,Act.put,eD,eE,eF]
            refine dP 20 rfl ?_
            simp only[eA,eB,eC,Act.put,eD,eE,eF]
            refine dP 21 rfl ?_
            simp only[eA,eB,eC,Act.put,eD,eE,eF]
            refine dP 22 rfl ?_
            simp only[eA,eB,eC,Act.put,eD,eE,eF]
            refine dP 23 rfl ?_
            simp only[eA,eB,eC,Act.put,eD,eE,eF]
            refine dP 24 rfl ?_
            simp only[eA,eB,eC,Act.put,eD,eE,eF]
            refine dP 25 rfl ?_
            simp only[eA,eB,eC,Act.put,eD,eE,eF]
            refine dP 26 rfl ?_
            simp only[eA,eB,eC,Act.put,eD,eE,eF]
            refine jF 27 ?_ rfl (fun w1 hl=>?_) ?_
            rotate_left
            ·obtain⟨hbx,c5,c3,_⟩:=HF.out w1 hl;obtain⟨x0,x1,x2,x3⟩:=hbx.ig;dsimp only at x0 x1 x2 x3;go_simp;try with_reducible rfl
            simp only[eA,eB,eC,Act.put,eD,eE,eF]
            refine aV (by kernel_rfl) (fun w1 hl=>?_) _
            have dw:=(HF.out _ hl).2.2.2
            go_wp2
            go_ret
            exact⟨by rw[HN.out.1,HN.out.2,wH.out (by rw[wV.out];simp;omega)];rfl,dw⟩
           ·have g2:decide (lab<0)=false:=by simp;omega
            by_cases h3:(k:Int)<lab
            ·have g3:decide ((k:Int)<lab)=true:=by simp[h3]
             go_wp2_with fail
             refine aO (R:=Later) 28 (by kernel_rfl) ?_
             refine pl [0,1,2,3,4,5,6,7,8,9,10,11,12,13,14,15,16,17,18,19,20,21,22,23,24,25,26,27] ?_
             repeat
              refine dR ?_ rfl (fun w1 hl=>?_) ?_
              rotate_left
              ·obtain⟨hbx,c5,c3,_⟩:=HF.out w1 hl;obtain⟨x0,x1,x2,x3⟩:=hbx.ig;dsimp only at x0 x1 x2 x3;go_simp;try with_reducible rfl
              simp only[eA,eB,eC,Act.put,eD,eE,eF]
             refine bV ?_
             refine aV (by kernel_rfl) (fun w1 hl=>?_) _
             have dw:=(HF.out _ hl).2.2.2
             go_wp2
             go_ret
             exact⟨by rw[HN.out.1,HN.out.2,wH.out (by rw[wV.out];simp;omega)];rfl,dw⟩
            ·have g3:decide ((k:Int)<lab)=false:=by simp;omega
             have HH3:=ah (And.intro h1 (And.intro h2 h3))
             subst h1
             clear h2 h3
             go_wp2_with fail
             refine aO (R:=Later) 28 (by kernel_rfl) ?_
             refine pl [0,1,2,3,4,5,6,7,8,9,10,11,12,13,14,15,16,17,18,19,20,21,22,23,24,25,26,27] ?_
             repeat
              refine dR ?_ rfl (fun w1 hl=>?_) ?_
              rotate_left
              ·obtain⟨hbx,c5,c3,_⟩:=HF.out w1 hl;obtain⟨x0,x1,x2,x3⟩:=hbx.ig;dsimp only at x0 x1 x2 x3;go_simp;try with_reducible rfl
              simp only[eA,eB,eC,Act.put,eD,eE,eF]
             refine bV ?_
             refine aV (by kernel_rfl) (fun w1 hl=>?_) _
             have dw:=(HF.out _ hl).2.2.2
             have Jt:=(HF.out _ hl).1
             clear hl
             go_wp2
             have hrow0:rowAt row nn 0=true:=rfl
             go_loopw [7] (fun i wr=>∃ q:Nat,q≤r∧i=.int .i64 q∧rowAt row nn q=true∧Box wr w.heap.size (aA.cells ⟨of,(r:Int),some ⟨b5,o5,none⟩,nn,nc,some ⟨b3,o3,none⟩,nn,lc,ma,k,mc⟩) 27∧Below w.heap.size w wr) (fun i _=>r - (intOf i).toNat)
             case atStart=>exact⟨0,Nat.zero_le _,rfl,hrow0,Jt,dw⟩
             case round =>
              clear hrow0 Jt dw c5 c3 SE c3'
              obtain⟨z,hz,rfl,hrq,hbx,hB⟩:=hrel
              obtain⟨x0,x1,x2,x3⟩:=hbx.ig
              dsimp only at x0 x1 x2 x3
              by_cases hlt3:z<r
              ·have hq2:z<row.length:=by rw[HRR.out];exact hlt3
               obtain rfl:=HA6.out z hq2
               have c6:=HK6.out z hq2 wr hB
               have c5:=HC5.out wr hB
               have hra:=kC.out z hq2
               have hrf:=HRF.out z hq2
               rw[hrq,Bool.true_and] at hra
               generalize row[z]=tt at *
               have adR:=ah hra
               have SI:=ah hrf
               have hq0:(0:Int)≤(z:Int):=by omega
               have hqm:(z:Int)<(r:Int):=by omega
               clear hra hrf hrq
               by_cases t1:tt<0
               ·have e4:decide (tt<0)=true:=by simp[t1]
                go_wp2
                go_ret
                exact⟨by rw[HN.out.1,HN.out.2,wH.out (by rw[wV.out,SI.out (by simp;omega),Bool.and_false])];rfl,hB⟩
               ·have e4:decide (tt<0)=false:=by simp;omega
                by_cases t2:(nn:Int)≤tt
                ·have e5:decide ((nn:Int)≤tt)=true:=by simp[t2]
                 go_wp2
                 go_ret
                 exact⟨by rw[HN.out.1,HN.out.2,wH.out (by rw[wV.out,SI.out (by simp;omega),Bool.and_false])];rfl,hB⟩
                ·have e5:decide ((nn:Int)≤tt)=false:=by simp;omega
                 go_wp2
                 go_roundw
                 case rel=>exact⟨z+1,hlt3,by go_num,by rw[adR.out];simp;omega,hbx,hB⟩
                 case measure=>simp[intOf];omega
              ·obtain rfl:z=r:=by omega
               have hall:(row.all fun t=>decide (0≤t)&&decide (t<(nn:Nat)))=true:=by rw[←HRZ.out,HRR.out];exact hrq
               have SK:ro q=true:=by have:=HH3.out;rw[wV.out,hall];simp;omega
               have HRK:=ah SK
               clear hall SK hrq
               go_wp2
               go_roundw
               case rel=>exact⟨q+1,hlt,by go_num,by rw[Ba.out,HRK.out],hbx,hB⟩
               case measure=>simp[intOf];omega
          ·have g1:((r:Int) != wd)=true:=by simp[h1]
           go_wp2_with fail
           refine aO (R:=Later) 28 (by kernel_rfl) ?_
           refine pl [0,1,2,3,4,5,6,7,8,9] ?_
           repeat
            refine dR ?_ rfl (fun w1 hl=>?_) ?_
            rotate_left
            ·obtain⟨hbx,c5,c3,_⟩:=HF.out w1 hl;obtain⟨x0,x1,x2,x3⟩:=hbx.ig;dsimp only at x0 x1 x2 x3;go_simp;try with_reducible rfl
            simp only[eA,eB,eC,Act.put,eD,eE,eF]
           refine bV ?_
           refine dP 10 rfl ?_
           simp only[eA,eB,eC,Act.put,eD,eE,eF]
           refine dP 11 rfl ?_
           simp only[eA,eB,eC,Act.put,eD,eE,eF]
           refine dP 12 rfl ?_
           simp only[eA,eB,eC,Act.put,eD,eE,eF]
           refine dP 13 rfl ?_
           simp only[eA,eB,eC,Act.put,eD,eE,eF]
           refine dP 14 rfl ?_
           simp only[eA,eB,eC,Act.put,eD,eE,eF]
           refine dP 15 rfl ?_
           simp only[eA,eB,eC,Act.put,eD,eE,eF]
           refine pl [16,17] ?_
           repeat
            refine dR ?_ rfl (fun w1 hl=>?_) ?_
            rotate_left
            ·obtain⟨hbx,c5,c3,_⟩:=HF.out w1 hl;obtain⟨x0,x1,x2,x3⟩:=hbx.ig;dsimp only at x0 x1 x2 x3;go_simp;try with_reducible rfl
            simp only[eA,eB,eC,Act.put,eD,eE,eF]
           refine bV ?_
           refine dP 18 rfl ?_
           simp only[eA,eB,eC,Act.put,eD,eE,eF]
           refine dP 19 rfl ?_
           simp only[eA,eB,eC,Act.put,eD,eE,eF]
           refine dP 20 rfl ?_
           simp only[eA,eB,eC,Act.put,eD,eE,eF]
           refine dP 21 rfl ?_
           simp only[eA,eB,eC,Act.put,eD,eE,eF]
           refine dP 22 rfl ?_
           simp only[eA,eB,eC,Act.put,eD,eE,eF]
           refine dP 23 rfl ?_
           simp only[eA,eB,eC,Act.put,eD,eE,eF]
           refine dP 24 rfl ?_
           simp only[eA,eB,eC,Act.put,eD,eE,eF]
           refine dP 25 rfl ?_
           simp only[eA,eB,eC,Act.put,eD,eE,eF]
           refine dP 26 rfl ?_
           simp only[eA,eB,eC,Act.put,eD,eE,eF]
           refine jF 27 ?_ rfl (fun w1 hl=>?_) ?_
           rotate_left
           ·obtain⟨hbx,c5,c3,_⟩:=HF.out w1 hl;obtain⟨x0,x1,x2,x3⟩:=hbx.ig;dsimp only at x0 x1 x2 x3;go_simp;try with_reducible rfl
           simp only[eA,eB,eC,Act.put,eD,eE,eF]
           refine aV (by kernel_rfl) (fun w1 hl=>?_) _
           have dw:=(HF.out _ hl).2.2.2
           go_wp2
           go_ret
           exact⟨by rw[HN.out.1,HN.out.2,wH.out (by rw[wV.out];simp[h1])];rfl,dw⟩
         ·obtain rfl:q=nn:=by omega
          have qC:=ah hok
          clear hok
          go_wp2
          go_ret
          exact⟨by rw[HN.out.1,HN.out.2,qC.out];rfl,hB⟩
   ·have q:(decide (1≤n)&&(decide (n≤65536)&&decide (nn=n)))=false:=by simp[b3]
    rw[q,Bool.false_and]
    have f3:((nn:Int) != (n:Int))=true:=by simp;omega
    have f3':(nn != n)=true:=by simp[b3]
    clear b1 b2 b3 q
    go_enter Tryz.func25,Tryz.ntmps25
    go_wp2
    go_ret
    exact⟨rfl,hB0⟩
end
section
open Go.ChangeShapes Go.WideShapes Go.ChangeAt Go.RowKit Go.Deep
def sH:Value:=.agg (Array.replicate 256 (.int .u8 0)++#[.int .i64 0,.slice none 0 0,.slice none 0 0,.slice none 0 0])
theorem afy(s:ByteArray):Value.string s=sv s.data.toList:=by
 unfold sv;cases s;rfl
theorem Le{α:Type}[Inhabited α]{n:Nat}{Q:Nat→α→Prop}(h:∀ i,i<n→∃ x,Q i x):∃ f:Nat→α,∀ i,i<n→Q i (f i) :=
 ⟨fun i=>if hi:i<n then (h i hi).choose else default,fun i hi=>by simp only[hi,dif_pos];exact(h i hi).choose_spec⟩
structure aa4(P:Program)(tD tA tU tI tN tL tM tS:TypeId)(fs:Array Field):Prop where
 ig:P.underlying tD=some (.struct fs)
 ahA:fs.map (fun f=>(f.type,f.offset))=#[(tA,0),(tI,256),(tN,257),(tL,258),(tM,259)]
 arr:P.underlying tA=some (.array 256 tU)
 u8:P.underlying tU=some (.int .u8)
 int:P.underlying tI=some (.int .i64)
 rows:P.underlying tN=some (.slice tL)
 ints:P.underlying tL=some (.slice tI)
 strs:P.underlying tM=some (.slice tS)
 str:P.underlying tS=some .string
 cD:P.cellsOf tD=260
 cA:P.cellsOf tA=256
 cU:P.cellsOf tU=1
 cI:P.cellsOf tI=1
 cN:P.cellsOf tN=1
 cL:P.cellsOf tL=1
 cM:P.cellsOf tM=1
 cS:P.cellsOf tS=1
theorem Lh:∃ fs,aa4 Tryz.prog 27 22 5 3 23 24 25 9 fs :=
 ⟨_,Tryz.underlying27,by kernel_rfl,Tryz.underlying22,Tryz.underlying5,Tryz.underlying3,Tryz.underlying23,Tryz.underlying24,Tryz.underlying25,Tryz.underlying9,
  by kernel_rfl,by kernel_rfl,by kernel_rfl,by kernel_rfl,by kernel_rfl,by kernel_rfl,by kernel_rfl,by kernel_rfl⟩
section
variable {H:Type} {enc:TypeId×Value→H} {P:Program} {w:World} {base:Nat} {spare:Nat→Bool} {held:Bool}
theorem xO{α:Type}[Inhabited α]{f:α→Value}{Ok:α→Prop}{t e:TypeId}(hs:P.underlying t=some (.slice e))(hc:P.cellsOf e=1)(fuel:Nat)
  (ih:∀ m c x,DataW.trod enc P w base spare held m e [c]=some x→∃ y:α,c=f y∧Ok y)
  {c:Value} {x:DataW H×List MemPlace} (h:DataW.trod enc P w base spare held fuel t [c]=some x) :
  ∃ (a:Option Addr) (cap:Nat) (l:List α),c=.slice a l.length cap∧au w (.slice a l.length cap) 1 (fun x=>[f x]) l∧∀ i (h:i<l.length),Ok l[i]:=by
 rcases DataW.trod_slice hs h with⟨h0,_⟩ | ⟨a',len,cap,elems,rest,n,hf,h0,_,_,hle,hm,_,hel,_⟩
 ·simp at h0
  exact⟨none,0,[],h0,⟨none,0,0,0,rfl,Nat.le_refl _,by simp[maxLen],.inr ⟨rfl,fun _=>rfl⟩,fun i hi=>by simp at hi⟩,fun i hi=>by simp at hi⟩
 ·simp at h0
  subst h0
  have key:∀ i,i<len→∃ y:α,w.cell? (a'.add i)=some (f y)∧Ok y:=fun i hi=>by
   have h1:=hel i hi
   rw[hc,Nat.mul_one,List.getElem?_eq_getElem (show i<elems.length by omega)] at h1
   obtain⟨cs',h2,h3⟩:=Option.bind_eq_some_iff.1 h1
   obtain⟨h5,_,h4⟩:=World.cells?_some h2
   match cs',h5,h3,h4 with
   | [c],_,h3,h4 =>
    obtain⟨y,rfl,hy⟩:=ih n _ _ h3
    refine⟨y,?_,hy⟩
    have:=h4 0 (by simp)
    simpa [Addr.add] using this
  obtain⟨g,hg⟩:=Le key
  have hspot:0<len→a'.spot=none:=fun h0=>by
   have:=World.cell?_spot (hg 0 h0).1
   simpa [Addr.add] using this
  obtain⟨b,o,spot⟩:=a'
  refine⟨some ⟨b,o,spot⟩,cap,(List.range len).map g,by simp,⟨some ⟨b,o,spot⟩,b,o,cap,by simp,by simpa using hle,hm,?_,fun i hi j u hu=>?_⟩,fun i hi=>?_⟩
  ·by_cases h0:len=0
   ·exact .inr ⟨by simp[h0],fun h=>by cases h⟩
   ·have h1:=hspot (by omega)
    simp only at h1
    exact .inl (by rw[h1])
  ·have hi':i<len:=by simpa using hi
   have:=(hg i hi').1
   have hs2:spot=none:=hspot (by omega)
   subst hs2
   rw[Addr.add_mid] at this
   have hj:j=0:=by have:=(List.getElem?_eq_some_iff.1 hu).1;simpa using this
   subst hj
   simp at hu
   rw[←hu,Nat.mul_one,Nat.add_zero];exact this
  ·have hi':i<len:=by simpa using hi
   simpa using (hg i hi').2
theorem D9{tD tA tU tI tN tL tM tS:TypeId}{fs:Array Field}(N:aa4 P tD tA tU tI tN tL tM tS fs){fuel:Nat}{cs:List Value}{x:DataW H×List MemPlace}(h:DataW.trod enc P w base spare held fuel tD cs=some x) :
  ∃ (V:aA) (D:aQ),cs=V.cells.toList∧aZ w V D∧(∀ b,V.of b<256)∧(∀ x∈D.names,x.length≤9223372036854775807)∧(Lit.int .i64 D.width).wf=true∧(∀ x∈D.label,(Lit.int .i64 x).wf=true)∧∀ r∈D.next,∀ x∈r,(Lit.int .i64 x).wf=true:=by
 obtain⟨xs,n,hfu,_,hl,hxl,hf⟩:=DataW.trod_struct N.ig h
 rw[N.cD] at hl
 have fl:=N.ahA
 obtain⟨f0,f1,f2,f3,f4,rfl⟩:∃ a b c d e,fs=#[a,b,c,d,e]:=by
  obtain⟨l⟩:=fs
  have:l.length=5:=by have:=congrArg Array.size fl;simpa using this
  match l,this with
  | [a,b,c,d,e],_=>exact⟨a,b,c,d,e,rfl⟩
 simp only[List.map_toArray,List.map_cons,List.map_nil,Array.mk.injEq,List.cons.injEq,Prod.mk.injEq,and_true] at fl
 obtain⟨⟨t0,o0⟩,⟨t1,o1⟩,⟨t2,o2⟩,⟨t3,o3⟩,⟨t4,o4⟩⟩:=fl
 have e0:=hf 0 f0 rfl;have e1:=hf 1 f1 rfl;have e2:=hf 2 f2 rfl;have e3:=hf 3 f3 rfl;have e4:=hf 4 f4 rfl
 rw[t0,o0,N.cA] at e0;rw[t1,o1,N.cI] at e1;rw[t2,o2,N.cN] at e2;rw[t3,o3,N.cL] at e3;rw[t4,o4,N.cM] at e4
 simp only[List.size_toArray,List.length_cons,List.length_nil] at hxl
 rw[List.getElem?_eq_getElem (by omega)] at e0 e1 e2 e3 e4
 have one:∀ k,k<260→(cs.drop k).take 1=[cs.getD k default]:=fun k hk=>by
  rw[List.drop_eq_getElem_cons (by omega),List.take_succ_cons,List.take_zero]
  simp[List.getD,List.getElem?_eq_getElem (show k<cs.length by omega)]
 rw[one 256 (by decide)] at e1;rw[one 257 (by decide)] at e2;rw[one 258 (by decide)] at e3;rw[one 259 (by decide)] at e4
 rw[List.drop_zero] at e0
 obtain⟨of,c0,hof⟩:=ZC N.arr N.u8 N.cU N.cA e0
 obtain⟨wd,c1,_,hwd⟩:=DataW.trod_int N.int e1
 have ints:∀ m c x,DataW.trod enc P w base spare held m tI [c]=some x→∃ y:Int,c=.int .i64 y∧(Lit.int .i64 y).wf=true:=fun m c x h=>by
  obtain⟨z,h1,_,h2⟩:=DataW.trod_int N.int h
  simp at h1
  exact⟨z,h1,h2⟩
 have rows:∀ m c x,DataW.trod enc P w base spare held m tL [c]=some x→∃ y:Value,c=y∧∃ (r:List Int) (a:Option Addr) (cap:Nat),y=.slice a r.length cap∧au w (.slice a r.length cap) 1 encI r∧∀ x∈r,(Lit.int .i64 x).wf=true:=fun m c x h=>by
  obtain⟨a,cap,l,h1,h2,h3⟩:=xO (f:=Value.int .i64) N.ints N.cI m ints h
  exact⟨c,rfl,l,a,cap,h1,h2,fun x hx=>by obtain⟨i,hi,rfl⟩:=List.getElem_of_mem hx;exact h3 i hi⟩
 have strs:∀ m c x,DataW.trod enc P w base spare held m tS [c]=some x→∃ y:List UInt8,c=sv y∧y.length≤9223372036854775807:=fun m c x h=>by
  obtain⟨s,h1,_,h2⟩:=DataW.trod_string N.str h
  simp at h1
  refine⟨s.data.toList,by rw[h1,afy],?_⟩
  rw[Array.length_toList];exact h2
 obtain⟨na,nc,Lj,c2,n1,n2⟩:=xO (f:=id) N.rows N.cL _ rows e2
 obtain⟨la,lc,lab,c3,l1,l2⟩:=xO (f:=Value.int .i64) N.ints N.cI _ ints e3
 obtain⟨ma,mc,nms,c4,m1,m2⟩:=xO (f:=sv) N.strs N.cS _ strs e4
 obtain⟨g,hg⟩:=Le (n:=Lj.length) (Q:=fun i (r:List Int)=>∃ (a:Option Addr) (cap:Nat),Lj.getD i default=.slice a r.length cap∧au w (.slice a r.length cap) 1 encI r∧∀ x∈r,(Lit.int .i64 x).wf=true) (fun i hi=>by
  obtain⟨r,a,cap,h1,h2⟩:=n2 i hi
  exact⟨r,a,cap,by simpa [List.getD,List.getElem?_eq_getElem hi] using h1,h2⟩)
 refine⟨⟨of,wd,na,Lj.length,nc,la,lab.length,lc,ma,nms.length,mc⟩,⟨of,wd,(List.range Lj.length).map g,lab,nms⟩,?_,⟨rfl,rfl,l1,m1,Lj,n1,by simp,fun i h1 h2=>?_⟩,hof,fun x hx=>?_,hwd,fun x hx=>?_,fun r hr=>?_⟩
 ·have:cs=cs.take 256++[cs.getD 256 default,cs.getD 257 default,cs.getD 258 default,cs.getD 259 default]:=by
   conv=>lhs;rw[←List.take_append_drop 256 cs]
   congr 1
   apply List.ext_getElem?
   intro i
   rw[List.getElem?_drop]
   match i with
   | 0=>simp[List.getD,List.getElem?_eq_getElem (show 256<cs.length by omega)]
   | 1=>simp[List.getD,List.getElem?_eq_getElem (show 257<cs.length by omega)]
   | 2=>simp[List.getD,List.getElem?_eq_getElem (show 258<cs.length by omega)]
   | 3=>simp[List.getD,List.getElem?_eq_getElem (show 259<cs.length by omega)]
   | i+4=>rw[List.getElem?_eq_none (by omega)];simp
  simp only[List.cons.injEq,and_true] at c1
  rw[this,c0,c1,c2,c3,c4]
  simp[aA.cells]
 ·obtain⟨a,cap,h3,h4,_⟩:=hg i h1
  rw[List.getD,List.getElem?_eq_getElem h1] at h3
  refine⟨a,cap,?_,?_⟩
  ·simpa using h3
  ·simpa using h4
 ·obtain⟨i,hi,rfl⟩:=List.getElem_of_mem hx;exact m2 i hi
 ·obtain⟨i,hi,rfl⟩:=List.getElem_of_mem hx;exact l2 i hi
 ·obtain⟨i,hi,rfl⟩:=List.mem_map.1 hr
  obtain⟨_,_,_,_,h⟩:=hg i (by simpa using hi)
  exact h
end
end
section
open Go.RowKit
def stepD(D:aQ)(s j:Nat):Nat:=((D.next.getD s []).getD j 0).toNat
theorem SS(D:aQ)(s:Nat)(b:UInt8):EF D s b=stepD D s (D.of b.toNat):=rfl
structure zo(w:World)(V:aA)(D:aQ)(n wd lb lo nb no:Nat)(rb ro rc:Nat→Nat):Prop where
 nl:D.label.length=n
 ln:V.ln=n
 nn:V.nn=n
 la:V.la=some ⟨lb,lo,none⟩
 na:V.na=some ⟨nb,no,none⟩
 wide:D.width=(wd:Nat)
 Wp:1≤wd∧wd≤256
 Ll:1≤n∧n≤65536
 lc:n≤V.lc∧V.lc≤9223372036854775807
 nc:n≤V.nc∧V.nc≤9223372036854775807
 lab:∀ k,k<n→∀ u:World,Below w.heap.size w u→u.cell? ⟨lb,lo+k,none⟩=some (.int .i64 (labS D k))
 row:∀ s,s<n→∀ u:World,Below w.heap.size w u→u.cell? ⟨nb,no+s,none⟩=some (.slice (some ⟨rb s,ro s,none⟩) wd (rc s))
 cap:∀ s,s<n→wd≤rc s∧rc s≤9223372036854775807
 OZ:∀ s,s<n→∀ j,j<wd→∀ u:World,Below w.heap.size w u→u.cell? ⟨rb s,ro s+j,none⟩=some (.int .i64 (stepD D s j:Nat))
 lt:∀ s,s<n→∀ j,j<wd→stepD D s j<n
 of:∀ b,b<256→D.of b<wd
 aoo:∀ s,s<n→0≤labS D s∧labS D s≤64
 blk:lb<w.heap.size∧nb<w.heap.size∧∀ s,s<n→rb s<w.heap.size
theorem zo.aop{w:World}{V:aA}{D:aQ}{n wd lb lo nb no:Nat}{rb ro rc:Nat→Nat}(h:zo w V D n wd lb lo nb no rb ro rc){s:Nat}(hs:s<n)(b:UInt8):EF D s b<n:=h.lt s hs _ (h.of _ b.toNat_lt)
theorem zo.later{w w2:World}{V:aA}{D:aQ}{n wd lb lo nb no:Nat}{rb ro rc:Nat→Nat}(h:zo w V D n wd lb lo nb no rb ro rc)(hb:Below w.heap.size w w2):zo w2 V D n wd lb lo nb no rb ro rc :=
 have hs:=hb.size
 ⟨h.nl,h.ln,h.nn,h.la,h.na,h.wide,h.Wp,h.Ll,h.lc,h.nc,fun k hk u hu=>h.lab k hk u (hb.trans (hu.mono hs)),fun k hk u hu=>h.row k hk u (hb.trans (hu.mono hs)),h.cap,fun k hk j hj u hu=>h.OZ k hk j hj u (hb.trans (hu.mono hs)),h.lt,h.of,h.aoo,
  ⟨Nat.lt_of_lt_of_le h.blk.1 hs,Nat.lt_of_lt_of_le h.blk.2.1 hs,fun s h1=>Nat.lt_of_lt_of_le (h.blk.2.2 s h1) hs⟩⟩
theorem machC{w:World}{V:aA}{D:aQ}(h:aZ w V D)(hw:gQ D):∃ n wd lb lo nb no rb ro rc,zo w V D n wd lb lo nb no rb ro rc:=by
 obtain⟨_,hwd,h3,_,rows,h5,h6,h7⟩:=h
 obtain⟨lb,lo,e3,c3,c3',a3,k3⟩:=h3.bU
 obtain⟨nb,no,e5,c5,SE,a5,k5⟩:=h5.bU
 have hpos:=hw.pos
 have hnx:=hw.nx
 have asF:=hw.of 0 (by decide)
 obtain⟨wd,hwd2⟩:∃ wd:Nat,D.width=(wd:Nat):=⟨D.width.toNat,by have:=hw.wd;omega⟩
 have hrow:∀ s,∃ rb ro rc,s<D.label.length→(rows.getD s (.int .i64 0)=.slice (some ⟨rb,ro,none⟩) wd rc)∧wd≤rc∧rc≤9223372036854775807∧∀ j,j<wd→∀ u:World,Below w.heap.size w u→u.cell? ⟨rb,ro+j,none⟩=some (.int .i64 (stepD D s j:Nat)):=fun s=>by
  by_cases hs:s<D.label.length
  ·have hs1:s<rows.length:=by omega
   have hs2:s<D.next.length:=by omega
   obtain⟨a,c,hr,hsl⟩:=h7 s hs1 hs2
   have hl:=hw.SL _ (List.getElem_mem hs2)
   have zM:(D.next[s]).length=wd:=by omega
   obtain⟨rb,ro,e,q1,q2,ha,hc⟩:=hsl.bU
   obtain rfl:=ha 0 (by omega)
   refine⟨rb,ro,c,fun _=>⟨?_,by omega,q2,fun j hj u hu=>?_⟩⟩
   ·rw[List.getD_eq_getElem?_getD,List.getElem?_eq_getElem hs1,Option.getD_some,hr,zM]
   ·have hj2:j<(D.next[s]).length:=by omega
    rw[hc j hj2 u hu]
    have ht:=hw.row _ (List.getElem_mem hs2) _ (List.getElem_mem hj2)
    have e:((stepD D s j:Nat):Int)=D.next[s][j]:=by
     unfold stepD
     simp only[List.getD_eq_getElem?_getD,List.getElem?_eq_getElem hs2,Option.getD_some,List.getElem?_eq_getElem hj2]
     omega
    rw[e]
  ·exact⟨0,0,0,fun h=>absurd h hs⟩
 have hr1:∃ f:Nat→Nat×Nat×Nat,∀ s,s<D.label.length→(rows.getD s (.int .i64 0)=.slice (some ⟨(f s).1,(f s).2.1,none⟩) wd (f s).2.2)∧wd≤(f s).2.2∧(f s).2.2≤9223372036854775807∧∀ j,j<wd→∀ u:World,Below w.heap.size w u→u.cell? ⟨(f s).1,(f s).2.1+j,none⟩=some (.int .i64 (stepD D s j:Nat)):=by
  have:∀ s,∃ p:Nat×Nat×Nat,s<D.label.length→(rows.getD s (.int .i64 0)=.slice (some ⟨p.1,p.2.1,none⟩) wd p.2.2)∧wd≤p.2.2∧p.2.2≤9223372036854775807∧∀ j,j<wd→∀ u:World,Below w.heap.size w u→u.cell? ⟨p.1,p.2.1+j,none⟩=some (.int .i64 (stepD D s j:Nat)):=fun s=>by
   obtain⟨rb,ro,rc,h⟩:=hrow s
   exact⟨(rb,ro,rc),h⟩
  exact Classical.axiomOfChoice this
 obtain⟨f,hf⟩:=hr1
 have hcl:∀ s,s<D.label.length→∀ u:World,Below w.heap.size w u→u.cell? ⟨nb,no+s,none⟩=some (.slice (some ⟨(f s).1,(f s).2.1,none⟩) wd (f s).2.2):=fun s hs u hu=>by
  have hs1:s<rows.length:=by omega
  rw[k5 s hs1 u hu,←(hf s hs).1,List.getD_eq_getElem?_getD,List.getElem?_eq_getElem hs1];rfl
 have hst:∀ s,s<D.label.length→∀ j,j<wd→stepD D s j<D.label.length:=fun s hs j hj=>by
  have hs2:s<D.next.length:=by omega
  have hl:=hw.SL _ (List.getElem_mem hs2)
  have hj2:j<(D.next[s]).length:=by omega
  have ht:=hw.row _ (List.getElem_mem hs2) _ (List.getElem_mem hj2)
  unfold stepD
  simp only[List.getD_eq_getElem?_getD,List.getElem?_eq_getElem hs2,Option.getD_some,List.getElem?_eq_getElem hj2]
  omega
 refine⟨D.label.length,wd,lb,lo,nb,no,fun s=>(f s).1,fun s=>(f s).2.1,fun s=>(f s).2.2,rfl,e3,by omega,a3 0 (by omega),a5 0 (by omega),hwd2,⟨by omega,by have:=hw.wd;omega⟩,⟨hpos,hw.le⟩,⟨by omega,c3'⟩,⟨by omega,SE⟩,fun k hk u hu=>?_,hcl,fun s hs=>⟨(hf s hs).2.1,(hf s hs).2.2.1⟩,fun s hs=>(hf s hs).2.2.2,hst,fun b hb=>by have:=hw.of b hb;omega,fun s hs=>?_,?_,?_,fun s hs=>?_⟩
 ·rw[gQ.D8 hk];exact k3 k hk u hu
 ·rw[gQ.D8 hs]
  have:=hw.lab _ (List.getElem_mem hs)
  have:=hw.names
  omega
 ·exact World.block_lt_of_cell? w _ (k3 0 (by omega) w (Below.refl _ _))
 ·exact World.block_lt_of_cell? w _ (hcl 0 (by omega) w (Below.refl _ _))
 ·exact World.block_lt_of_cell? w _ ((hf s hs).2.2.2 0 (by omega) w (Below.refl _ _))
end
section
open Go.RowKit
theorem zo.run{w:World}{V:aA}{D:aQ}{n wd lb lo nb no:Nat}{rb ro rc:Nat→Nat}(h:zo w V D n wd lb lo nb no rb ro rc):∀ (v:List UInt8) {s:Nat},s<n→fQ D s v<n
 | [],_,hs=>hs
 | b::v,_,hs=>h.run v (h.aop hs b)
end
section
open Go.RowKit
def bZ(D:aQ)(s:Nat):List UInt8:=if 0<labS D s then D.names.getD ((labS D s).toNat - 1) [] else []
def fP(A B:aQ)(p:Nat×Nat)(c:Nat):Nat×Nat:=(stepD A p.1 (A.of c),stepD B p.2 (B.of c))
def jW(A B:aQ)(low:List Nat)(p q:Nat×Nat):Prop:=∃ w:List Nat,(∀ c∈w,c∈low)∧w.foldl (fP A B) p=q
def Qp(A B:aQ)(low:List Nat)(p:Nat×Nat):Prop:=∀ q,jW A B low p q→bZ A q.1=bZ B q.2
theorem jW.refl(A B:aQ)(low:List Nat)(p:Nat×Nat):jW A B low p p:=⟨[],by simp,rfl⟩
theorem jW.on{A B:aQ}{low:List Nat}{p q:Nat×Nat}(h:jW A B low p q){c:Nat}(hc:c∈low):jW A B low p (fP A B q c):=by
 obtain⟨w,h1,rfl⟩:=h
 refine⟨w++[c],fun d hd=>?_,by rw[List.foldl_append];rfl⟩
 rcases List.mem_append.1 hd with hd | hd
 ·exact h1 d hd
 ·rw[List.mem_singleton.1 hd];exact hc
structure sJ(A B:aQ)(low:List Nat)(n m:Nat)(p0:Nat×Nat)(rep:Nat→Nat)(J W:List (Nat×Nat)):Prop where
 ok:∀ p∈J,p.1<n∧p.2<m∧jW A B low p0 p
 sub:∀ p∈W,p∈J
 start:rep p0.1=rep (n+p0.2)
 gen:∀ E:Nat→Nat→Prop,Equivalence E→(∀ p∈J,E p.1 (n+p.2))→∀ u v,u<n+m→v<n+m→rep u=rep v→E u v
def ny(A B:aQ)(low:List Nat)(n:Nat)(rep:Nat→Nat)(J W:List (Nat×Nat))(pk:Option ((Nat×Nat)×List Nat)):Prop :=
 ∀ p∈J,p∈W∨(bZ A p.1=bZ B p.2∧((∀ c∈low,rep (fP A B p c).1=rep (n+(fP A B p c).2))∨∃ cs,pk=some (p,cs)∧∀ c∈cs,rep (fP A B p c).1=rep (n+(fP A B p c).2)))
section
variable {A B:aQ} {low:List Nat} {n m:Nat} {p0:Nat×Nat} {rep BR:Nat→Nat} {J W:List (Nat×Nat)}
theorem sJ.done(h:sJ A B low n m p0 rep J [])(hd:ny A B low n rep J [] none)(h1:p0.1<n)(h2:p0.2<m)(hlt:∀ p:Nat×Nat,p.1<n→p.2<m→∀ c∈low,(fP A B p c).1<n∧(fP A B p c).2<m):Qp A B low p0:=by
 let suc:Nat→Nat→Nat:=fun u c=>if u<n then stepD A u (A.of c) else n+stepD B (u - n) (B.of c)
 let nm:Nat→List UInt8:=fun u=>if u<n then bZ A u else bZ B (u - n)
 have hJ:∀ p∈J,bZ A p.1=bZ B p.2∧∀ c∈low,rep (fP A B p c).1=rep (n+(fP A B p c).2):=fun p hp=>by
  rcases hd p hp with h | ⟨h1,h2 | ⟨cs,h2,_⟩⟩
  ·cases h
  ·exact⟨h1,h2⟩
  ·cases h2
 have hnm:=h.gen (fun u v=>nm u=nm v) ⟨fun _=>rfl,Eq.symm,Eq.trans⟩ (fun p hp=>by
  show nm p.1=nm (n+p.2)
  simp only[nm,if_pos (h.ok p hp).1,if_neg (Nat.not_lt.2 (Nat.le_add_right n p.2)),Nat.add_sub_cancel_left]
  exact(hJ p hp).1)
 have hsc:=h.gen (fun u v=>∀ c∈low,rep (suc u c)=rep (suc v c)) ⟨fun _ _ _=>rfl,fun a c hc=>(a c hc).symm,fun a b c hc=>(a c hc).trans (b c hc)⟩ (fun p hp c hc=>by
  simp only[suc,if_pos (h.ok p hp).1,if_neg (Nat.not_lt.2 (Nat.le_add_right n p.2)),Nat.add_sub_cancel_left]
  exact(hJ p hp).2 c hc)
 have key:∀ (w:List Nat) (p:Nat×Nat),p.1<n→p.2<m→rep p.1=rep (n+p.2)→(∀ c∈w,c∈low)→(w.foldl (fP A B) p).1<n∧(w.foldl (fP A B) p).2<m∧rep (w.foldl (fP A B) p).1=rep (n+(w.foldl (fP A B) p).2):=by
  intro w
  induction w with
  | nil=>exact fun p a b c _=>⟨a,b,c⟩
  | cons c w ih =>
   intro p a b e hw
   obtain⟨k1,k2⟩:=hlt p a b c (hw c (List.mem_cons_self ..))
   have:=hsc p.1 (n+p.2) (by omega) (by omega) e c (hw c (List.mem_cons_self ..))
   simp only[suc,if_pos a,if_neg (Nat.not_lt.2 (Nat.le_add_right n p.2)),Nat.add_sub_cancel_left] at this
   exact ih _ k1 k2 this (fun d hd=>hw d (List.mem_cons_of_mem _ hd))
 rintro q ⟨w,hw,rfl⟩
 obtain⟨k1,k2,k3⟩:=key w p0 h1 h2 h.start hw
 have:=hnm _ _ (by omega) (by omega) k3
 simp only[nm,if_pos k1,if_neg (Nat.not_lt.2 (Nat.le_add_right n _)),Nat.add_sub_cancel_left] at this
 exact this
theorem sJ.pop{p:Nat×Nat}(h:sJ A B low n m p0 rep J (W++[p])):sJ A B low n m p0 rep J W:=⟨h.ok,fun q hq=>h.sub q (List.mem_append_left _ hq),h.start,h.gen⟩
theorem ny.pop{p:Nat×Nat}(h:ny A B low n rep J (W++[p]) none)(hn:bZ A p.1=bZ B p.2):ny A B low n rep J W (some (p,[])):=by
 intro q hq
 rcases h q hq with h | ⟨h1,h2 | ⟨cs,h2,_⟩⟩
 ·rcases List.mem_append.1 h with h | h
  ·exact .inl h
  ·obtain rfl:=List.mem_singleton.1 h
   exact .inr ⟨hn,.inr ⟨[],rfl,fun c hc=>by cases hc⟩⟩
 ·exact .inr ⟨h1,.inl h2⟩
 ·cases h2
theorem ny.same{p:Nat×Nat}{cs:List Nat}{c:Nat}(h:ny A B low n rep J W (some (p,cs)))(he:rep (fP A B p c).1=rep (n+(fP A B p c).2)):ny A B low n rep J W (some (p,cs++[c])):=by
 intro q hq
 rcases h q hq with h | ⟨h1,h2 | ⟨ds,h2,h3⟩⟩
 ·exact .inl h
 ·exact .inr ⟨h1,.inl h2⟩
 ·cases h2
  refine .inr ⟨h1,.inr ⟨_,rfl,fun d hd=>?_⟩⟩
  rcases List.mem_append.1 hd with hd | hd
  ·exact h3 d hd
  ·rw[List.mem_singleton.1 hd];exact he
theorem sJ.join{x:Nat×Nat}(h:sJ A B low n m p0 rep J W)(h1:x.1<n)(h2:x.2<m)(hm:jW A B low p0 x)(H9:∀ i,i<n+m→rep i<n+m)(rr:∀ i,i<n+m→rep (rep i)=rep i){a b:Nat}(hab:(a=rep x.1∧b=rep (n+x.2))∨(b=rep x.1∧a=rep (n+x.2))):sJ A B low n m p0 (fun y=>if rep y=b then a else rep y) (J++[x]) (W++[x]):=by
 have hxa:x.1<n+m:=by omega
 have hxb:n+x.2<n+m:=by omega
 have hJ:=h.gen
 refine⟨fun p hp=>?_,fun p hp=>?_,?_,fun E hE hx u v hu hv he=>?_⟩
 ·rcases List.mem_append.1 hp with hp | hp
  ·exact h.ok p hp
  ·rw[List.mem_singleton.1 hp];exact⟨h1,h2,hm⟩
 ·rcases List.mem_append.1 hp with hp | hp
  ·exact List.mem_append_left _ (h.sub p hp)
  ·exact List.mem_append_right _ hp
 ·rw[h.start]
 ·have old:=fun u v hu hv=>h.gen E hE (fun p hp=>hx p (List.mem_append_left _ hp)) u v hu hv
  have new:E x.1 (n+x.2):=hx x (List.mem_append_right _ (List.mem_singleton.2 rfl))
  have Qq:∀ u,u<n+m→E u (rep u):=fun u hu=>old u (rep u) hu (H9 u hu) (rr u hu).symm
  have hxy:E (rep x.1) (rep (n+x.2)):=hE.trans (hE.symm (Qq _ hxa)) (hE.trans new (Qq _ hxb))
  have ab:E a b:=by
   rcases hab with⟨rfl,rfl⟩ | ⟨rfl,rfl⟩
   ·exact hxy
   ·exact hE.symm hxy
  have key:∀ u,u<n+m→E u (if rep u=b then a else rep u):=fun u hu=>by
   split
   ·rename_i e
    exact hE.trans (Qq u hu) (by rw[e];exact hE.symm ab)
   ·exact Qq u hu
  have e1:=key u hu
  have e2:=key v hv
  try dsimp only at he
  rw[he] at e1
  exact hE.trans e1 (hE.symm e2)
theorem ny.join{x:Nat×Nat}{a b:Nat}{pk:Option ((Nat×Nat)×List Nat)}(h:ny A B low n rep J W pk):ny A B low n (fun y=>if rep y=b then a else rep y) (J++[x]) (W++[x]) pk:=by
 intro q hq
 rcases List.mem_append.1 hq with hq | hq
 ·rcases h q hq with h | ⟨h1,h2 | ⟨ds,h2,h3⟩⟩
  ·exact .inl (List.mem_append_left _ h)
  ·exact .inr ⟨h1,.inl fun c hc=>by show(if rep _=b then a else rep _)=_;rw[h2 c hc]⟩
  ·exact .inr ⟨h1,.inr ⟨ds,h2,fun c hc=>by show(if rep _=b then a else rep _)=_;rw[h3 c hc]⟩⟩
 ·exact .inl (List.mem_append_right _ hq)
theorem ny.full{p:Nat×Nat}(h:ny A B low n rep J W (some (p,low))):ny A B low n rep J W none:=by
 intro q hq
 rcases h q hq with h | ⟨h1,h2 | ⟨ds,h2,h3⟩⟩
 ·exact .inl h
 ·exact .inr ⟨h1,.inl h2⟩
 ·cases h2;exact .inr ⟨h1,.inl h3⟩
theorem sJ.first(A B:aQ)(low:List Nat)(n m:Nat)(p0:Nat×Nat)(h1:p0.1<n)(h2:p0.2<m){a b:Nat}(hab:(a=p0.1∧b=n+p0.2)∨(b=p0.1∧a=n+p0.2)):sJ A B low n m p0 (fun y=>if y=b then a else y) [p0] [p0]:=by
 refine⟨fun p hp=>?_,fun p hp=>hp,?_,fun E hE hx u v hu hv he=>?_⟩
 ·rw[List.mem_singleton.1 hp];exact⟨h1,h2,jW.refl _ _ _ _⟩
 ·rcases hab with⟨rfl,rfl⟩ | ⟨rfl,rfl⟩
  ·rw[if_pos rfl,if_neg (by omega)]
  ·rw[if_pos rfl,if_neg (by omega)]
 ·have new:E p0.1 (n+p0.2):=hx p0 (List.mem_singleton.2 rfl)
  have ab:E a b:=by
   rcases hab with⟨rfl,rfl⟩ | ⟨rfl,rfl⟩
   ·exact new
   ·exact hE.symm new
  have key:∀ u,E u (if u=b then a else u):=fun u=>by
   split
   ·rename_i e;subst e;exact hE.symm ab
   ·exact hE.refl u
  have e1:=key u
  have e2:=key v
  try dsimp only at he
  rw[he] at e1
  exact hE.trans e1 (hE.symm e2)
theorem ny.first(p0:Nat×Nat)(rep:Nat→Nat):ny A B low n rep [p0] [p0] none:=fun _ hq=>.inl hq
end
def Ad(n:Nat)(rep:Nat→Nat):Nat:=((List.range n).filter fun i=>rep i==i).length
theorem YE(n:Nat):Ad n (fun i=>i)=n:=by
 unfold Ad
 rw[List.filter_eq_self.2 (fun a _=>by simp),List.length_range]
theorem Vm{n:Nat}{rep:Nat→Nat}{a b:Nat}(hb:b<n)(rb:rep b=b)(ra:rep a=a)(hab:a≠b):Ad n (fun y=>if rep y=b then a else rep y)+1=Ad n rep:=by
 unfold Ad
 have key:∀ l:List Nat,l.Nodup→b∈l→(l.filter fun i=>(if rep i=b then a else rep i)==i).length+1=(l.filter fun i=>rep i==i).length:=by
  have e:∀ i,i≠b→((if rep i=b then a else rep i)==i)=(rep i==i):=fun i hi=>by
   rw[Bool.eq_iff_iff,beq_iff_eq,beq_iff_eq]
   by_cases h:rep i=b
   ·rw[if_pos h,h]
    constructor
    ·rintro rfl;rw[ra] at h;exact absurd h hab
    ·intro h2;exact absurd h2.symm hi
   ·rw[if_neg h]
  intro l
  induction l with
  | nil=>intro _ h;cases h
  | cons x l ih =>
   intro hn hm
   obtain⟨hx,hn2⟩:=List.nodup_cons.1 hn
   by_cases hxb:x=b
   ·subst hxb
    rw[List.filter_cons_of_neg (by rw[rb,if_pos rfl];simpa using hab),List.filter_cons_of_pos (by simpa using rb),List.length_cons]
    congr 2
    exact List.filter_congr fun i hi=>e i fun h=>hx (h▸hi)
   ·have hm2:b∈l:=by
     rcases List.mem_cons.1 hm with h | h
     ·exact absurd h.symm hxb
     ·exact h
    have:=ih hn2 hm2
    have ex:=e x hxb
    cases h:rep x==x with
    | true=>rw[List.filter_cons_of_pos (by rw[ex,h]),List.filter_cons_of_pos (by simpa using h),List.length_cons,List.length_cons];omega
    | false=>rw[List.filter_cons_of_neg (by rw[ex,h];simp),List.filter_cons_of_neg (by rw[h];simp)];exact this
 exact key _ List.nodup_range (List.mem_range.2 hb)
end
end Go.Proofs.YtengfapcaaacaaaGreatDoor
