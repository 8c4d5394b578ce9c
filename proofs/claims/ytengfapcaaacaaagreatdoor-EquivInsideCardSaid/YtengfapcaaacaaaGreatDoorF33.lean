/- The texts of E33, in few letters (mini.py). -/
import Derived.Test.YtengfapcaaacaaaGreatDoorF32
import Derived.Test.YtengfapcaaacaaaGreatDoorF30
import Derived.Lib.SlBytesConst
set_option linter.unusedVariables false
set_option linter.unusedSimpArgs false
set_option maxRecDepth 20000
set_option maxHeartbeats 6400000
namespace Go.Proofs.YtengfapcaaacaaaGreatDoor
section
open Go.RowKit
def uF(D:aQ)(f:List UInt8→Int)(s:Nat):Int:=if 0<labS D s then f (bZ D s) else 0
theorem Dt{α:Type}(g:Nat→α)(k:Nat):(List.range (k+1)).map g=(List.range k).map g++[g k]:=by rw[List.range_succ,List.map_append];rfl
def zx(D:aQ)(NS:List (List UInt8))(f:List UInt8→Int):aQ:=⟨D.of,D.width,D.next,(List.range D.label.length).map (uF D f),NS⟩
def apx(w:World)(D:aQ)(e:Ending)(w':World):Prop:=∃ V:aA,e=.returned (.agg V.cells)∧(∀ v:World,(∀ b,w.heap.size≤b→b<w'.heap.size→v.heap[b]?=w'.heap[b]?)→aZ v V D)∧Below w.heap.size w w'
theorem lW.turn{w:World}{ob base:Nat}{V:aA}{of:Nat→Nat}{wd:Int}{NS:List (List UInt8)}{nx:List (List Int)}{lab:List Int}(h:lW w ob base V of wd NS nx lab){b:Nat}{c:Array Value}(hx:Box w b c 27)(hn:ob≠b)(c':Array Value):lW (w.setRow b c') ob base V of wd NS nx lab:=by
 obtain⟨rows,h1,h2,h3,h4⟩:=h.Xo
 have k:∀ {α:Type} {E size:Nat} {enc:α→List Value} {v:Value} {xs:List α},E≠27→Own w base E size enc v xs→Own (w.setRow b c') base E size enc v xs:=fun hE ho=>ho.eG fun g hg=>setRow_other w b g _ (fun e=>by
  obtain⟨_,c1,hb1⟩:=ho.block g hg
  rw[e] at hb1
  exact hE (hb1.iD hx))
 exact⟨h.box.setRow_other c' hn,h.of,h.width,k (by decide) h.lab,k (by decide) h.Xn,rows,k (by decide) h1,h2,fun i p q=>k (by decide) (h3 i p q),h4⟩
theorem lW.readsIn{w v:World}{ob base:Nat}{V:aA}{D:aQ}(h:lW w ob base V D.of D.width D.names D.next D.label)(ho:base≤ob)(hb:∀ b,base≤b→b<w.heap.size→v.heap[b]?=w.heap[b]?):aZ v V D:=by
 obtain⟨rows,h1,h2,h3,h4⟩:=h.Xo
 have k:∀ {α:Type} {E size:Nat} {enc:α→List Value} {u:Value} {xs:List α},Own w base E size enc u xs→Own v base E size enc u xs:=fun h=>h.eG fun g hg=>hb g (h.je g hg).1 (h.je g hg).2
 exact lW.reads (D:=D) ⟨(hb ob ho h.box.lt).trans h.box,h.of,h.width,k h.lab,k h.Xn,rows,k h1,h2,fun i p q=>k (h3 i p q),h4⟩
theorem PN:dI Tryz.prog 24 3 (.int .i64 0) 1 8:=⟨Tryz.underlying24,info_parts (by kernel_rfl),rfl,by decide⟩
theorem ahs(V:aA)(D:aQ)(w:World)(h:aZ w V D)(hw:gQ D)(na:Option Addr)(nn nc:Nat)(NS:List (List UInt8))(hNS:au w (.slice na nn nc) 1 jl NS)(hNl:NS.length≤64)(B p:Nat)(hEn:Enters Tryz.prog B)(f:List UInt8→Int)
  (hby:∀ u:World,Below w.heap.size w u→∀ s,s<D.label.length→0<labS D s→Calls Tryz.prog B #[sv (bZ D s),.pointer (some ⟨p,0,none⟩)] u (bF u (.int .i64 (f (bZ D s))))) :
  Calls Tryz.prog 81 #[.agg V.cells,.slice na nn nc,.func (.func B) #[] #[.pointer (some ⟨p,0,none⟩)]] w (apx w (zx D NS f)):=by
 obtain⟨n,wd,lb,lo,nb,no,rb,ro,rc,hm⟩:=machC h hw
 have HCN:Hid (∀ u:World,Below w.heap.size w u→Calls Tryz.prog 110 #[.slice na nn nc] u (fV u 9 1 jl NS)):=ah fun u hu=>IK NS na nn nc u (hNS.kept hu) (by omega)
 have HCR:Hid (∀ (k:Nat) (hk:k<n) (u:World),Below w.heap.size w u→Calls Tryz.prog 87 #[.slice (some ⟨rb k,ro k,none⟩) wd (rc k)] u (fV u 3 1 encI (D.next.getD k []))):=ah fun k hk u hu=>by
  obtain⟨_,_,_,_,rows,h5,h6,h7⟩:=h.kept hu
  have hk2:k<D.next.length:=by rw[hw.nx,hm.nl];exact hk
  obtain⟨a,c,e,hs⟩:=h7 k (by omega) hk2
  obtain⟨b5,o5,_,_,_,ha5,hx5⟩:=h5.bU (f:=fun v:Value=>v)
  have e1:=hm.row k hk u hu
  have e2:=hx5 k (by omega) u (Below.refl _ _)
  have e3:=ha5 k (by omega)
  rw[hm.na] at e3
  cases e3
  rw[e1,e] at e2
  obtain⟨rfl,e4,rfl⟩:=Value.slice.inj (Option.some.inj e2)
  rw[List.getD_eq_getElem?_getD,List.getElem?_eq_getElem hk2,Option.getD_some,e4]
  exact aeS _ _ _ _ u hs (by have:=hm.Wp;omega) (by have:=hm.Wp;omega)
 obtain⟨e1,e2,e3⟩:=h.lens
 obtain⟨b4,o4,l4,c4,Il,a4,k4⟩:=h.2.2.2.1.bU
 have apy:Hid (∀ s,s<n→0<labS D s→∃ y:Nat,labS D s=(y:Int)+1∧y<V.mn∧V.ma=some ⟨b4,o4,none⟩∧∀ u:World,Below w.heap.size w u→u.cell? ⟨b4,o4+y,none⟩=some (sv (bZ D s))):=ah fun s hs hp=>by
  have hs':s<D.label.length:=by rw[hm.nl];exact hs
  obtain⟨g1,g2⟩:=hw.lab _ (List.getElem_mem hs')
  have hlab:labS D s=D.label[s]:=gQ.D8 hs'
  have hi:(labS D s).toNat - 1<D.names.length:=by rw[hlab] at hp ⊢;omega
  refine⟨(labS D s).toNat - 1,by omega,by omega,a4 _ hi,fun u hu=>?_⟩
  rw[k4 _ hi u hu]
  unfold bZ
  rw[if_pos hp,List.getD_eq_getElem?_getD,List.getElem?_eq_getElem hi];rfl
 have hmb:V.mn≤V.mc∧V.mc≤9223372036854775807:=by omega
 have HEN:=ah hEn
 have HM:=ah hm;have HW:=ah hw;have OU:=ah h.1;have HWV:=ah h.2.1;have OD:=ah hby
 have hn1:=hm.Ll
 have hnl:=hm.nl
 have hnc:=hm.nc
 have hlc:=hm.lc
 have xA:=(Box.new w V.cells 27).alloc (.cells Vz.cells 27)
 have xR:=Box.new' (World.size_alloc w (.cells V.cells 27)).symm Vz.cells 27
 have hB0:=(aj w (.cells V.cells 27)).alloc (aj w (.cells V.cells 27)).size (.cells Vz.cells 27)
 have HF:Hid (∀ u,Later ((w.alloc (.cells V.cells 27)).alloc (.cells Vz.cells 27)).drew u→Box u w.heap.size V.cells 27∧Box u (w.heap.size+1) Vz.cells 27∧Below w.heap.size w u):=ah fun u hu=>by
  have h1:=((Below.refl _ ((w.alloc (.cells V.cells 27)).alloc (.cells Vz.cells 27))).drew).trans (Below.mono hu (Nat.le_refl _))
  exact⟨xA.kept h1,xR.kept h1,hB0.trans (h1.mono hB0.size)⟩
 clear h hw hm hby hEn hNS xA xR hB0 e1 e2 e3 l4 c4 Il a4 k4
 go_enter Tryz.func81,Tryz.ntmps81
 go_wp2_with fail
 simp only[fO]
 refine aO (R:=Later) 8 (by kernel_rfl) ?_
 refine jF 0 ?_ rfl (fun w1 hl=>?_) ?_
 rotate_left
 ·skip;go_simp;try with_reducible rfl
 simp only[eA,eB,Act.put,eD,eE,eF]
 refine jF 1 (.agg (aG V.of)) rfl (fun w1 hl=>?_) ?_
 ·exact EN 22 _ rfl w.heap.size 0 rfl (HF.out w1 hl).1.rU Tryz.underlying22 rfl (by rw[Array.length_toList,aU];rfl)
 simp only[eA,eB,eC,Act.put,eD,eE,eF]
 refine pl [2,3,4] ?_
 repeat
  refine dR ?_ rfl (fun w1 hl=>?_) ?_
  rotate_left
  ·obtain⟨x0,x1,x2,x3⟩:=(HF.out w1 hl).1.ig;have l0:=(HF.out w1 hl).1.lt;go_simp;try with_reducible rfl
  simp only[eA,eB,eC,Act.put,eD,eE,eF]
 refine bV ?_
 refine Cj (t:=8) (i:=5) (j:=7) (by kernel_rfl) rfl rfl (fun w1 hl K hK=>?_) (fun w1 hl K hK=>?_)
 focus
  obtain⟨hX,hS,hB⟩:=HF.out w1 hl
  clear hl HF
  go_simp
  refine(HCN.out w1 hB).mono ?_
  rintro e w3 ⟨rG,wu,rfl,hoN,hbN⟩
  refine hK.out _ _ (fun _=>hbN) ?_
  have akw:=hoN.mono hB.size
  have fD:=hX.kept hbN
  have hS3:=hS.kept hbN
  have hB3:=hB.trans (hbN.mono hB.size)
  clear hK K hX hS hB hbN hoN
  refine jF 6 (.agg (aA.cells ⟨V.of,V.width,none,0,0,none,0,0,rG,NS.length,wu⟩)) rfl (fun w1 hl=>?_) ?_
  ·exact rC rfl (by rfl) (MO V.of V.width rG NS.length wu)
  simp only[eA,eB,eC,Act.put,eD,eE,eF]
  refine bg (t:=8) (i:=7) (by kernel_rfl) rfl (fun w1 hl K hK=>?_)
  have akx:=akw.kept hl
  have iR:=fD.kept hl
  have hS4:=hS3.kept hl
  have hB4:=hB3.trans (hl.mono hB3.size)
  clear hl akw fD hS3 hB3
  go_simp
  simp only[fO]
  refine hK.out _ _ (fun _=>aj _ _) ?_
  clear hK K
  have hal:=aj w1 (.cells Vz.cells 27)
  have Uz:=akx.kept hal
  have rY:=iR.kept hal
  have hS5:=hS4.kept hal
  have bI:=hB4.trans (hal.mono hB4.size)
  have IV:=Box.new w1 Vz.cells 27
  obtain⟨ob,hob⟩:∃ ob,w1.heap.size=ob:=⟨_,rfl⟩
  have hol:w.heap.size+1<ob:=by rw[←hob];exact hS4.lt
  rw[hob] at IV
  clear akx iR hS4 hB4 hal
  simp only[hob]
  clear hob
  generalize w1.alloc (.cells Vz.cells 27)=w5 at *
  refine bg (t:=8) (i:=8) (by kernel_rfl) rfl (fun w1 hl K hK=>?_)
  have JL:=Uz.kept hl
  have oZ:=rY.kept hl
  have hS6:=hS5.kept hl
  have fF:=bI.trans (hl.mono bI.size)
  have hQ6:=IV.kept hl
  clear Uz rY hS5 bI IV hl
  refine eY (by rfl) ?_
  refine wp_store_row 27 _ _ rfl ob (aA.cells ⟨V.of,V.width,none,0,0,none,0,0,rG,NS.length,wu⟩) rfl rfl _ _ hQ6 (ay _) (aA.sizes _ _) (aA.all _) ?_
  refine hK.out _ _ (fun h=>absurd rfl h) ?_
  clear hK K
  have hD7:lW (w1.setRow ob (aA.cells ⟨V.of,V.width,none,0,0,none,0,0,rG,NS.length,wu⟩)) ob w.heap.size ⟨V.of,V.width,none,0,0,none,0,0,rG,NS.length,wu⟩ D.of D.width NS [] [] :=
   ⟨hQ6.setRow _,OU.out,HWV.out,Own.nil _ _ _ _ _,JL.eG fun g hg=>setRow_other w1 ob g _ (fun e=>by
    obtain⟨_,c1,hb1⟩:=JL.block g hg
    rw[e] at hb1
    exact absurd (hQ6.iD hb1) (by decide)),[],Own.nil _ _ _ _ _,rfl,fun i h1=>by simp at h1,fun i h1=>by simp at h1⟩
  have tC:=oZ.setRow_other (aA.cells ⟨V.of,V.width,none,0,0,none,0,0,rG,NS.length,wu⟩) (show w.heap.size≠ob by omega)
  have hS7:=hS6.setRow_other (aA.cells ⟨V.of,V.width,none,0,0,none,0,0,rG,NS.length,wu⟩) (show w.heap.size+1≠ob by omega)
  have iH:=below_setRow fF (show w.heap.size≤ob by omega) (aA.cells ⟨V.of,V.width,none,0,0,none,0,0,rG,NS.length,wu⟩)
  clear JL oZ hS6 fF hQ6
  generalize w1.setRow ob (aA.cells ⟨V.of,V.width,none,0,0,none,0,0,rG,NS.length,wu⟩)=w7 at *
  refine aV (by kernel_rfl) (fun w1 hl=>?_) _
  have hD8:=hD7.kept hl
  have yU:=tC.kept hl
  have Xp:=hS7.kept hl
  have jZ:=iH.trans (hl.mono iH.size)
  clear hD7 tC hS7 iH hl
 rotate_left
 focus
  skip
  obtain⟨hX,hS,hB⟩:=HF.out w1 hl
  clear hl HF
  go_simp
  simp only[fO]
  refine hK.out _ _ (fun _=>aj _ _) ?_
  clear hK K
  have hal:=aj w1 (.cells Vz.cells 27)
  have rY:=hX.kept hal
  have hS5:=hS.kept hal
  have bI:=hB.trans (hal.mono hB.size)
  have IV:=Box.new w1 Vz.cells 27
  obtain⟨ob,hob⟩:∃ ob,w1.heap.size=ob:=⟨_,rfl⟩
  have hol:w.heap.size+1<ob:=by rw[←hob];exact hS.lt
  rw[hob] at IV
  clear hX hS hB hal
  simp only[hob]
  clear hob
  generalize w1.alloc (.cells Vz.cells 27)=w5 at *
  refine bg (t:=8) (i:=5) (by kernel_rfl) rfl (fun w1 hl K hK=>?_)
  have rY:=rY.kept hl
  have hS5:=hS5.kept hl
  have bI:=bI.trans (hl.mono bI.size)
  have IV:=IV.kept hl
  clear hl
  go_simp
  refine(HCN.out w1 bI).mono ?_
  rintro e w3 ⟨rG,wu,rfl,hoN,hbN⟩
  refine hK.out _ _ (fun _=>hbN) ?_
  have Uz:=hoN.mono bI.size
  have rY:=rY.kept hbN
  have hS5:=hS5.kept hbN
  have IV:=IV.kept hbN
  have bI:=bI.trans (hbN.mono bI.size)
  clear hK K hbN hoN
  refine jF 6 (.agg (aA.cells ⟨V.of,V.width,none,0,0,none,0,0,rG,NS.length,wu⟩)) rfl (fun w1 hl=>?_) ?_
  ·exact rC rfl (by rfl) (MO V.of V.width rG NS.length wu)
  simp only[eA,eB,eC,Act.put,eD,eE,eF]
  refine bg (t:=8) (i:=8) (by kernel_rfl) rfl (fun w1 hl K hK=>?_)
  have JL:=Uz.kept hl
  have oZ:=rY.kept hl
  have hS6:=hS5.kept hl
  have fF:=bI.trans (hl.mono bI.size)
  have hQ6:=IV.kept hl
  clear Uz hl
  refine eY (by rfl) ?_
  refine wp_store_row 27 _ _ rfl ob (aA.cells ⟨V.of,V.width,none,0,0,none,0,0,rG,NS.length,wu⟩) rfl rfl _ _ hQ6 (ay _) (aA.sizes _ _) (aA.all _) ?_
  refine hK.out _ _ (fun h=>absurd rfl h) ?_
  clear hK K
  have hD7:lW (w1.setRow ob (aA.cells ⟨V.of,V.width,none,0,0,none,0,0,rG,NS.length,wu⟩)) ob w.heap.size ⟨V.of,V.width,none,0,0,none,0,0,rG,NS.length,wu⟩ D.of D.width NS [] [] :=
   ⟨hQ6.setRow _,OU.out,HWV.out,Own.nil _ _ _ _ _,JL.eG fun g hg=>setRow_other w1 ob g _ (fun e=>by
    obtain⟨_,c1,hb1⟩:=JL.block g hg
    rw[e] at hb1
    exact absurd (hQ6.iD hb1) (by decide)),[],Own.nil _ _ _ _ _,rfl,fun i h1=>by simp at h1,fun i h1=>by simp at h1⟩
  have tC:=oZ.setRow_other (aA.cells ⟨V.of,V.width,none,0,0,none,0,0,rG,NS.length,wu⟩) (show w.heap.size≠ob by omega)
  have hS7:=hS6.setRow_other (aA.cells ⟨V.of,V.width,none,0,0,none,0,0,rG,NS.length,wu⟩) (show w.heap.size+1≠ob by omega)
  have iH:=below_setRow fF (show w.heap.size≤ob by omega) (aA.cells ⟨V.of,V.width,none,0,0,none,0,0,rG,NS.length,wu⟩)
  clear JL oZ hS6 fF hQ6
  generalize w1.setRow ob (aA.cells ⟨V.of,V.width,none,0,0,none,0,0,rG,NS.length,wu⟩)=w7 at *
  refine aV (by kernel_rfl) (fun w1 hl=>?_) _
  have hD8:=hD7.kept hl
  have yU:=tC.kept hl
  have Xp:=hS7.kept hl
  have jZ:=iH.trans (hl.mono iH.size)
  clear hD7 tC hS7 iH hl
 all_goals
  have y1:w1.cell? ⟨w.heap.size,257,none⟩=some (.slice (some ⟨nb,no,none⟩) n V.nc):=by rw[yU.ig.2.1,HM.out.na,HM.out.nn]
  have l1:=yU.lt
  have HD8:=ah hD8;have HX8:=ah yU;have HS8:=ah Xp;have Me:=ah jZ
  have hnx:D.next.length=n:=by rw[HW.out.nx,HM.out.nl]
  clear hD8 yU Xp jZ
  go_wp2_with fail
  go_loopw [21] (fun v21 wr=>∃ (k:Nat) (U:aA),k≤n∧v21=.int .i64 k∧lW wr ob w.heap.size U D.of D.width NS (D.next.take k) ((List.range k).map (uF D f))∧Box wr w.heap.size V.cells 27∧Box wr (w.heap.size+1) Vz.cells 27∧Below w.heap.size w wr) (fun v21 _=>n - (intOf v21).toNat)
  case atStart=>exact⟨0,_,Nat.zero_le _,rfl,by rw[List.take_zero,List.range_zero,List.map_nil];exact HD8.out,HX8.out,HS8.out,Me.out⟩
  case round =>
   clear y1 l1 HD8 HX8 HS8 Me
   obtain⟨k,U,hk,rfl,hD,hX,hS,hB⟩:=hrel
   by_cases hlt:k<n
   ·have hc0:=HM.out.row k hlt wr hB
    have hbl:=World.block_lt_of_cell? wr _ hc0
    have hki:(k:Int)<(n:Int):=by omega
    have hk0:(0:Int)≤(k:Int):=by omega
    have htk:D.next.take (k+1)=D.next.take k++[D.next.getD k []]:=by
     rw[List.getD_eq_getElem?_getD,List.getElem?_eq_getElem (by rw[hnx];exact hlt),Option.getD_some];exact List.take_succ_eq_append_getElem _
    have AX:=ah htk
    have hrow:(D.next.getD k []).length=wd:=by
     rw[List.getD_eq_getElem?_getD,List.getElem?_eq_getElem (by rw[hnx];exact hlt),Option.getD_some]
     have:=HW.out.SL _ (List.getElem_mem (show k<D.next.length by rw[hnx];exact hlt))
     have:=HM.out.wide
     omega
    have hcr:=HCR.out k hlt
    have hcr2:Hid (∀ u:World,Below w.heap.size w u→Calls Tryz.prog 87 #[.slice (some ⟨rb k,ro k,none⟩) wd (rc k)] u (fun e w'=>∃ a c,e=.returned (.slice a wd c)∧Own w' u.heap.size 3 1 encI (.slice a wd c) (D.next.getD k [])∧Below u.heap.size u w')):=ah fun u hu=>by
     have:=hcr u hu
     unfold fV at this
     rwa[hrow] at this
    have F7:(D.next.take k).length=k:=by rw[List.length_take];omega
    have Gp:=ah F7
    have HF2:Hid (∀ u,Later wr.drew u→lW u ob w.heap.size U D.of D.width NS (D.next.take k) ((List.range k).map (uF D f))∧Box u w.heap.size V.cells 27∧Box u (w.heap.size+1) Vz.cells 27∧Below w.heap.size w u):=ah fun u hu=>by
     have h1:=dl hu
     exact⟨hD.kept h1,hX.kept h1,hS.kept h1,hB.trans (h1.mono hB.size)⟩
    clear hD hX hS hB hcr htk hrow F7
    go_wp2_with fail
    clear hc0 hbl
    refine jG (R:=Later) [5,7] (by kernel_rfl) ?_
    refine EY 0 ?_ rfl (fun w1=>?_) ?_
    rotate_left
    ·go_simp;try with_reducible rfl
    simp only[eA,eB,Act.put,eD,eE,eF]
    refine CJ 1 ?_ rfl (fun w1 hl=>?_) ?_
    rotate_left
    ·obtain⟨hN,_⟩:=HF2.out w1 hl;have c1:w1.cell? ⟨ob,257,none⟩=some (.slice U.na U.nn U.nc):=(hN.box.cell 257).trans U.pG;have lb1:=hN.box.lt;go_simp;try with_reducible rfl
    simp only[eA,eB,eC,Act.put,eD,eE,eF]
    refine EY 2 ?_ rfl (fun w1=>?_) ?_
    rotate_left
    ·go_simp;try with_reducible rfl
    simp only[eA,eB,eC,Act.put,eD,eE,eF]
    refine eP (T:=[5,7]) (i:=3) (by kernel_rfl) rfl (fun w1 hl K hK=>?_)
    obtain⟨hN,hX,hS,hB⟩:=HF2.out w1 hl
    clear hl HF2
    go_simp
    refine(hcr2.out w1 hB).mono ?_
    rintro e w3 ⟨a2,c2,rfl,hoR,hbR⟩
    refine hK.out _ _ (fun _=>hbR) ?_
    have hxd:∀ g,(xY (a2,wd,c2)).ownBlock=some g→(Value.slice U.la U.ln U.lc).ownBlock≠some g:=fun g hg e=>by
     have:=(hoR.je g hg).1
     have:=(hN.lab.je g e).2
     omega
    have akA:=hoR.mono hB.size
    have hN3:=hN.kept hbR
    have fD:=hX.kept hbR
    have hS3:=hS.kept hbR
    have hB3:=hB.trans (hbR.mono hB.size)
    clear hK K hN hX hS hB hbR hoR
    refine eP (T:=[5,7]) (i:=4) (by kernel_rfl) rfl (fun w1 hl K hK=>?_)
    have akB:=akA.kept hl
    have hN4:=hN3.kept hl
    have iR:=fD.kept hl
    have hS4:=hS3.kept hl
    have hB4:=hB3.trans (hl.mono hB3.size)
    clear hl akA hN3 fD hS3 hB3
    go_simp
    refine hK.out _ _ (fun _=>aj _ _) ?_
    have hsl:=oz Gw w1 24 [(a2,wd,c2)] (by simp[maxLen])
    have hal:=aj w1 (.cells #[.slice a2 wd c2] 24)
    have akC:=akB.kept hal
    have WY:=hN4.kept hal
    have rY:=iR.kept hal
    have hS5:=hS4.kept hal
    have bI:=hB4.trans (hal.mono hB4.size)
    clear hK K akB hN4 iR hS4 hB4 hal
    refine eP (T:=[5,7]) (i:=5) (by kernel_rfl) rfl (fun w1 hl K hK=>?_)
    have akD:=akC.kept hl
    have hN6:=WY.kept hl
    have oZ:=rY.kept hl
    have hS6:=hS5.kept hl
    have fF:=bI.trans (hl.mono bI.size)
    have hnw:=CV (hsl.kept hl)
    clear hsl hl akC WY rY hS5 bI
    obtain⟨rows,h1,h2,h3,h4⟩:=hN6.Xo
    have hrl:rows.length=k:=h2.trans Gp.out
    refine eY (by rfl) ?_
    refine nX _ _ 23 rfl Zi Gw rfl h1 _ 1 (a2,wd,c2) rfl hnw (by simp[maxLen];omega) (by omega) fF.size ?_
    intro a' cap' w' ho hg hfr
    refine hK.out _ _ (fun h=>absurd h (by decide)) ?_
    clear hK K hnw hfr
    simp only[List.getElem_toArray,List.getElem_cons_zero,List.getElem_cons_succ,Act.put,List.setIfInBounds_toArray,List.set_cons_zero,List.set_cons_succ]
    rw[hrl] at ho ⊢
    have kL:=hN6.box.cu h1 hg (by decide)
    have tC:=oZ.cu h1 hg (by decide)
    have hS7:=hS6.cu h1 hg (by decide)
    have iH:=below_grown fF h1 hg (Nat.le_refl _) fF.size
    have Wu:Hid (∀ u,Later w' u→lW (u.setCell ⟨ob,257,none⟩ (.slice a' (k+1) cap')) ob w.heap.size { U with na:=a',nn:=k+1,nc:=cap' } D.of D.width NS (D.next.take k++[D.next.getD k []]) ((List.range k).map (uF D f))):=ah fun u hu=>hN6.row h1 h2 h3 h4 hg ho akD hxd hu
    clear hN6 h1 h2 h3 h4 hg ho akD oZ hS6 fF hrl hxd
    refine EY 6 ?_ rfl (fun w1=>?_) ?_
    rotate_left
    ·go_simp;try with_reducible rfl
    simp only[eA,eB,eC,Act.put,eD,eE,eF]
    refine eP (T:=[5,7]) (i:=7) (by kernel_rfl) rfl (fun w1 hl K hK=>?_)
    have Zk:=kL.kept hl
    have yU:=tC.kept hl
    have Xp:=hS7.kept hl
    have jZ:=iH.trans (hl.mono iH.size)
    have hN8:=Wu.out w1 hl
    have c1:w1.cell? ⟨ob,257,none⟩=some (.slice U.na U.nn U.nc):=(Zk.cell 257).trans U.pG
    have f1:=Zk.free 257
    have lb1:=Zk.lt
    have zU:=yU.other ⟨ob,257,none⟩ (.slice a' (k+1) cap') (by show w.heap.size≠ob;omega)
    have Bh:=Xp.other ⟨ob,257,none⟩ (.slice a' (k+1) cap') (by show w.heap.size+1≠ob;omega)
    have dw:Below w.heap.size w (w1.setCell ⟨ob,257,none⟩ (.slice a' (k+1) cap')):=jZ.setCell (by show w.heap.size≤ob;omega) _
    clear hl Zk kL Wu tC yU hS7 Xp iH jZ
    go_simp
    refine hK.out _ _ (fun h=>absurd h (by decide)) ?_
    clear hK K c1 f1 lb1
    rw[←AX.out] at hN8
    obtain⟨U2,O5⟩:∃ U2:aA,{ U with na:=a',nn:=k+1,nc:=cap' }=U2:=⟨_,rfl⟩
    rw[O5] at hN8
    clear O5
    generalize w1.setCell ⟨ob,257,none⟩ (.slice a' (k+1) cap')=W9 at *
    refine nU (by kernel_rfl) (fun w1 hl=>?_) _
    have Zl:=hN8.kept hl
    have NU:=zU.kept hl
    have Zm:=Bh.kept hl
    have sN:=dw.trans (hl.mono dw.size)
    have x2:w1.cell? ⟨w.heap.size,258,none⟩=some (.slice (some ⟨lb,lo,none⟩) n V.lc):=by rw[NU.ig.2.2.1,HM.out.la,HM.out.ln]
    have x2l:=NU.lt
    have q0:=HM.out.lab k hlt w1 sN
    have q0l:=World.block_lt_of_cell? _ _ q0
    have hpos:=apy.out k hlt
    have hby:=OD.out
    have hkD:k<D.label.length:=by rw[hnl];exact hlt
    by_cases hp:0<labS D k
    ·obtain⟨y,hy,hym,hma,hyc⟩:=hpos hp
     have e1:decide (0<labS D k)=true:=by simp[hp]
     have apz:=ah (fun u (hu:Below w.heap.size w u)=>hby u hu k hkD hp)
     have HY:Hid (uF D f k=f (bZ D k)):=ah (if_pos hp)
     have HF3:Hid (∀ u,Later w1.drew u→(lW u ob w.heap.size U2 D.of D.width NS (D.next.take (k+1)) ((List.range k).map (uF D f))∧Box u w.heap.size V.cells 27∧Box u (w.heap.size+1) Vz.cells 27∧Below w.heap.size w u)∧u.cell? ⟨w.heap.size,258,none⟩=some (.slice (some ⟨lb,lo,none⟩) n V.lc)∧u.cell? ⟨w.heap.size,259,none⟩=some (.slice (some ⟨b4,o4,none⟩) V.mn V.mc)∧u.cell? ⟨lb,lo+k,none⟩=some (.int .i64 ((y:Int)+1))∧u.cell? ⟨b4,o4+y,none⟩=some (sv (bZ D k))):=ah fun u hu=>by
      have h1:=dl hu
      have hbu:=sN.trans (h1.mono sN.size)
      have hxu:=NU.kept h1
      refine⟨⟨Zl.kept h1,hxu,Zm.kept h1,hbu⟩,?_,?_,?_,hyc u hbu⟩
      ·rw[hxu.ig.2.2.1,HM.out.la,HM.out.ln]
      ·rw[hxu.ig.2.2.2,hma]
      ·rw[HM.out.lab k hlt u hbu,hy]
     have y0:(0:Int)≤(y:Int):=by omega
     have y1':(y:Int)<(V.mn:Int):=by omega
     have atb:=hmb.1
     have atc:=hmb.2
     have atd:V.mn≤9223372036854775807:=by omega
     have hwy:IntKind.i64.wrap (y:Int)=(y:Int):=IntWalk.i64_in _ (by omega)
     rw[hy] at q0 e1
     clear hN8 zU Bh dw hl Zl NU Zm sN hpos hby hp hym hyc
     generalize bZ D k=nk at *
     have hcf:∀ w,(callFunc B #[sv nk,.pointer (some ⟨p,0,none⟩)]).run Tryz.prog w=.ok (.enter B #[sv nk,.pointer (some ⟨p,0,none⟩)]) w:=fun w=>HEN.out _ w
     go_wp2_with fail
     clear x2 x2l q0 q0l
     refine aO (R:=Later) 13 (by kernel_rfl) ?_
     refine pl [0,1,2,3,4,5,6,7,8,9,10] ?_
     repeat
      refine dR ?_ rfl (fun w1 hl=>?_) ?_
      rotate_left
      ·obtain⟨_,q1,q2,q3,q4⟩:=HF3.out w1 hl;have t0:=World.block_lt_of_cell? _ _ q1;have t1:=World.block_lt_of_cell? _ _ q3;have t2:=World.block_lt_of_cell? _ _ q4;go_simp;try with_reducible rfl
      simp only[eA,eB,eC,Act.put,eD,eE,eF]
     refine bV ?_
     refine yg 11 ?_ ?_ ?_ rfl (fun w1=>?_) (fun w1 hl=>?_) ?_
     rotate_left 4
     ·exact apz.out _ (HF3.out w1 hl).1.2.2.2
     rotate_left
     ·go_simp
     simp only[eA,eB,eC,Act.put,eD,eE,eF]
     refine jF 12 ?_ rfl (fun w1 hl=>?_) ?_
     rotate_left
     ·skip;go_simp;try with_reducible rfl
     simp only[eA,eB,eC,Act.put,eD,eE,eF]
     refine aV (by kernel_rfl) (fun w1 hl=>?_) _
     obtain⟨z1,z2,z3,z4⟩:=(HF3.out w1 hl).1
     have UA:=ah z1;have HX9:=ah z2;have HS9:=ah z3;have mG:=ah z4
     clear z1 z2 z3 z4 HF3 hl
     obtain⟨yv,hyv⟩:∃ yv,f nk=yv:=⟨_,rfl⟩
     rw[hyv] at HY ⊢
     clear hyv
     generalize w1=W9 at *
     have MP:=(UA.out.kept (aj W9 (.cells #[.int .i64 yv] 3)))
     have zU:=(HX9.out.kept (aj W9 (.cells #[.int .i64 yv] 3)))
     have Bh:=(HS9.out.kept (aj W9 (.cells #[.int .i64 yv] 3)))
     have dw:=mG.out.alloc mG.out.size (.cells #[.int .i64 yv] 3)
     have rX:=MP.lab
     have hll:((List.range k).map (uF D f)).length=k:=by rw[List.length_map,List.length_range]
     have c9:W9.cell? ⟨ob,258,none⟩=some (.slice U2.la U2.ln U2.lc):=(UA.out.box.cell 258).trans U2.iZ
     have lb9:=UA.out.box.lt
     have Ey:=ah hll
     clear hll
     go_wp2_with (at_builtin;go_must (refine eX rfl _ _ 24 rfl PN kJ rfl rX ⟨W9.heap.size,0,none⟩ 1 yv rfl (bW W9 [.int .i64 yv] _) (by rw[Ey.out];simp only[maxLen];omega) (by rw[Ey.out];omega) dw.size ?_;intro a7 c7 w7 gJ dn oI;change World.grownBy _ _ (Value.slice U2.la U2.ln U2.lc).ownBlock at dn;change _=(Value.slice U2.la U2.ln U2.lc).ownBlock∨_ at oI;rw[Ey.out] at gJ oI ⊢;have kL:=MP.box.cu rX dn (by decide);have p7:w7.cell? ⟨ob,258,none⟩=some (.slice U2.la U2.ln U2.lc):=(kL.cell 258).trans U2.iZ;have f7:=kL.free 258;have l7:=kL.lt;have HDA:=ah (MP.add gJ dn oI);have HXA:=ah ((zU.cu rX dn (by decide)).other ⟨ob,258,none⟩ (.slice a7 (k+1) c7) (by show w.heap.size≠ob;omega));have Xq:=ah ((Bh.cu rX dn (by decide)).other ⟨ob,258,none⟩ (.slice a7 (k+1) c7) (by show w.heap.size+1≠ob;omega));have hbg:=below_grown dw rX dn (Nat.le_refl _) dw.size;have Xr:Hid (Below w.heap.size w (w7.setCell ⟨ob,258,none⟩ (.slice a7 (k+1) c7))):=ah (hbg.setCell (by show w.heap.size≤ob;omega) _);clear gJ dn oI kL hbg MP zU Bh dw rX c9 lb9))
     go_roundw
     case rel =>
      have hq:=HDA.out
      rw[←HY.out,←Dt] at hq
      exact⟨k+1,_,hlt,by go_num,hq,HXA.out,Xq.out,Xr.out⟩
     case measure=>simp[intOf];omega
    ·have e1:decide (0<labS D k)=false:=by simp[hp]
     have HY:Hid (uF D f k=0):=ah (if_neg hp)
     have UA:=ah Zl;have HX9:=ah NU;have HS9:=ah Zm;have mG:=ah sN
     clear hN8 zU Bh dw hl Zl NU Zm sN hpos hby hp
     generalize w1=W9 at *
     have MP:=(UA.out.kept (aj W9 (.cells #[.int .i64 0] 3)))
     have zU:=(HX9.out.kept (aj W9 (.cells #[.int .i64 0] 3)))
     have Bh:=(HS9.out.kept (aj W9 (.cells #[.int .i64 0] 3)))
     have dw:=mG.out.alloc mG.out.size (.cells #[.int .i64 0] 3)
     have rX:=MP.lab
     have hll:((List.range k).map (uF D f)).length=k:=by rw[List.length_map,List.length_range]
     have c9:W9.cell? ⟨ob,258,none⟩=some (.slice U2.la U2.ln U2.lc):=(UA.out.box.cell 258).trans U2.iZ
     have lb9:=UA.out.box.lt
     have Ey:=ah hll
     clear hll
     go_wp2_with (at_builtin;go_must (refine eX rfl _ _ 24 rfl PN kJ rfl rX ⟨W9.heap.size,0,none⟩ 1 0 rfl (bW W9 [.int .i64 0] _) (by rw[Ey.out];simp only[maxLen];omega) (by rw[Ey.out];omega) dw.size ?_;intro a7 c7 w7 gJ dn oI;change World.grownBy _ _ (Value.slice U2.la U2.ln U2.lc).ownBlock at dn;change _=(Value.slice U2.la U2.ln U2.lc).ownBlock∨_ at oI;rw[Ey.out] at gJ oI ⊢;have kL:=MP.box.cu rX dn (by decide);have p7:w7.cell? ⟨ob,258,none⟩=some (.slice U2.la U2.ln U2.lc):=(kL.cell 258).trans U2.iZ;have f7:=kL.free 258;have l7:=kL.lt;have HDA:=ah (MP.add gJ dn oI);have HXA:=ah ((zU.cu rX dn (by decide)).other ⟨ob,258,none⟩ (.slice a7 (k+1) c7) (by show w.heap.size≠ob;omega));have Xq:=ah ((Bh.cu rX dn (by decide)).other ⟨ob,258,none⟩ (.slice a7 (k+1) c7) (by show w.heap.size+1≠ob;omega));have hbg:=below_grown dw rX dn (Nat.le_refl _) dw.size;have Xr:Hid (Below w.heap.size w (w7.setCell ⟨ob,258,none⟩ (.slice a7 (k+1) c7))):=ah (hbg.setCell (by show w.heap.size≤ob;omega) _);clear gJ dn oI kL hbg MP zU Bh dw rX c9 lb9))
     go_roundw
     case rel =>
      have hq:=HDA.out
      rw[←HY.out,←Dt] at hq
      exact⟨k+1,_,hlt,by go_num,hq,HXA.out,Xq.out,Xr.out⟩
     case measure=>simp[intOf];omega
   ·obtain rfl:k=n:=by omega
    rw[List.take_of_length_le (by omega)] at hD
    rw[←hnl] at hD
    have HD:=ah hD;have HB:=ah hB;have HS:=ah hS
    have hbD:=hD.box
    clear hD hB hX
    go_wp2_with (first | (refine ak (by rfl) 27 _ rfl ob rfl _ _ _ _ hbD Tryz.underlying27 rfl (ay _) ?_) | (refine wpList_store_row rfl 27 (.tmp 6) (.tmp 58) rfl (w.heap.size+1) _ rfl rfl _ _ hS (ay _) (aA.sizes _ _) (aA.all _) ?_))
    have hD2:=HD.out.turn HS.out (show ob≠w.heap.size+1 by omega) U.cells
    exact eH Tryz.results81 rfl (hS.setRow _) Tryz.underlying27 rfl (ay _) rfl ⟨U,rfl,fun v hv=>(show lW _ ob w.heap.size U (zx D NS f).of (zx D NS f).width (zx D NS f).names (zx D NS f).next (zx D NS f).label from hD2).readsIn (by omega) hv,below_setRow HB.out (by omega) _⟩
end
section
open Go.RowKit
def xZ(s t:List UInt8):Int:=if t=s then 1 else 0
def kZ(D:aQ)(s:List UInt8):aQ:=zx D [s] (xZ s)
theorem aeT(s t:List UInt8)(p:Nat)(w:World)(hp:Box w p #[sv s] 9):Calls Tryz.prog 80 #[sv t,.pointer (some ⟨p,0,none⟩)] w (bF w (.int .i64 (xZ s t))):=by
 have q0:w.cell? ⟨p,0,none⟩=some (sv s):=hp.cell 0
 have ql:=hp.lt
 unfold xZ
 by_cases h:t=s
 ·have e1:(t==s)=true:=by simp[h]
  rw[if_pos h]
  clear h hp
  go_enter Tryz.func80,Tryz.ntmps80
  go_wp2
  go_ret
  exact⟨rfl,Below.refl _ _⟩
 ·have e1:(t==s)=false:=by simp[h]
  rw[if_neg h]
  clear h hp
  go_enter Tryz.func80,Tryz.ntmps80
  go_wp2
  go_ret
  exact⟨rfl,Below.refl _ _⟩
theorem UC(w:World)(b:Nat)(c:Array Value):(w.setRow b c).heap.size=w.heap.size:=by simp
def apA(w:World)(D:aQ)(e:Ending)(w':World):Prop:=∃ V:aA,e=.returned (.tuple #[.agg V.cells,.int .i64 0])∧(∀ v:World,(∀ b,w.heap.size≤b→b<w'.heap.size→v.heap[b]?=w'.heap[b]?)→aZ v V D)∧Below w.heap.size w w'
theorem Xt(V:aA)(D:aQ)(s:List UInt8)(w:World)(h:aZ w V D)(hl:∀ x∈D.names,x.length≤9223372036854775807)(hr:dM D=true)(hs:s.length≤9223372036854775807)(hn:jh s=true) :
  Calls Tryz.prog 43 #[.agg V.cells,sv s] w (apA w (kZ D s)):=by
 have hw:=nN hr
 have HR:=ah (fun(u:World) (hu:Below w.heap.size w u)=>hr▸qW V D u (h.kept hu) hl)
 have HN:=ah (fun(u:World)=>hn▸A8 s u hs)
 have HW:=ah (fun(u:World) (hu:Below w.heap.size w u) (p:Nat) (hp:Box u p #[sv s] 9) (g c:Nat) (hg:au u (.slice (some ⟨g,0,none⟩) 1 c) 1 jl [s])=>ahs V D u (h.kept hu) hw _ 1 c [s] hg (by simp) 80 p (enters_of Tryz.func80 (by kernel_rfl) rfl) (xZ s) (fun v hv t ht _=>aeT s _ p v (hp.kept hv)))
 have xA:=((Box.new w V.cells 27).alloc (.cells #[sv s] 9)).alloc (.cells Vz.cells 27)
 have xS:=(Box.new' (World.size_alloc w (.cells V.cells 27)).symm #[sv s] 9).alloc (.cells Vz.cells 27)
 have b0:=(aj w (.cells V.cells 27)).alloc (aj w (.cells V.cells 27)).size (.cells #[sv s] 9)
 have b1:=b0.alloc b0.size (.cells Vz.cells 27)
 have xR:Box (((w.alloc (.cells V.cells 27)).alloc (.cells #[sv s] 9)).alloc (.cells Vz.cells 27)) (w.heap.size+1+1) Vz.cells 27:=Box.new' (by rw[World.size_alloc,World.size_alloc]) _ _
 clear h hl hr hn hw b0
 go_enter Tryz.func43,Tryz.ntmps43
 go_wp2_with (first | (simp only[fO];refine ak (by rfl) 27 _ rfl w.heap.size rfl _ _ _ _ xA Tryz.underlying27 rfl (ay _) ?_))
 refine(HR.out _ b1).mono ?_
 rintro e w2 ⟨rfl,hb2⟩
 have mQ:=xA.kept hb2
 have Xu:=xS.kept hb2
 have xR2:=xR.kept hb2
 have B2:=b1.trans (hb2.mono b1.size)
 have c2:w2.cell? ⟨w.heap.size+1,0,none⟩=some (sv s):=Xu.cell 0
 have l2:=Xu.lt
 clear xA xS xR hb2
 go_wp2_with fail
 refine(HN.out _).mono ?_
 rintro e w3 ⟨rfl,hb3⟩
 have mV:=(mQ.kept hb3).alloc (.cells #[sv s] 9)
 have xS3:=(Xu.kept hb3).alloc (.cells #[sv s] 9)
 have xR3:=(xR2.kept hb3).alloc (.cells #[sv s] 9)
 have B3':=B2.trans (hb3.mono B2.size)
 have B3:=B3'.alloc B3'.size (.cells #[sv s] 9)
 have c3:w3.cell? ⟨w.heap.size+1,0,none⟩=some (sv s):=(Xu.kept hb3).cell 0
 have l3:=(Xu.kept hb3).lt
 have akJ:=mQ.kept hb3
 have hsl:au (w3.alloc (.cells #[sv s] 9)) (.slice (some ⟨w3.heap.size,0,none⟩) 1 1) 1 jl [s]:=oz pX w3 9 [s] (by simp[maxLen])
 have HC:=ah (HW.out _ B3 _ xS3 _ _ hsl)
 clear mQ Xu xR2 hb3 c2 l2 hsl mV xS3 B3'
 go_wp2_with (first | (refine ak (by rfl) 27 _ rfl w.heap.size rfl _ _ _ _ akJ Tryz.underlying27 rfl (ay _) ?_))
 refine HC.out.mono ?_
 rintro e w4 ⟨U,rfl,hU,hb4⟩
 have apB:=xR3.lt
 have xR4:=xR3.kept hb4
 have B4:=B3.trans (hb4.mono B3.size)
 clear xR3 akJ
 go_wp2_with (first | (refine wpList_store_row rfl 27 (.tmp 4) (.tmp 22) rfl (w.heap.size+1+1) _ rfl rfl _ _ xR4 (ay _) (aA.sizes _ _) (aA.all _) ?_))
 have hs4:=hb4.size
 have hsz:w.heap.size+1+1<(w3.alloc (.cells #[sv s] 9)).heap.size:=apB
 refine dN Tryz.results43 rfl rfl (xR4.setRow _) Tryz.underlying27 rfl (ay _) rfl ⟨U,rfl,fun v hv=>hU v fun b h1 h2=>?_,below_setRow B4 (by omega) _⟩
 have hb:w.heap.size≤b:=by omega
 rw[hv b hb (by rw[UC];exact h2)]
 exact setRow_other w4 _ b _ (by omega)
end
section
open Go.RowKit
def both(A B:aQ):Bool:=dM A&&dM B
theorem JM(VA VB:aA)(A B:aQ)(w:World)(hA:aZ w VA A)(hB:aZ w VB B)(nA:∀ x∈A.names,x.length≤9223372036854775807)(nB:∀ x∈B.names,x.length≤9223372036854775807)(hT:Tab w) :
  Calls Tryz.prog 12 #[.agg VA.cells,.agg VB.cells] w (bF w (.tuple #[.bool (both A B&&EG A B),.int .i64 (if both A B=true then 0 else 6)])):=by
 have xA:=(Box.new w VA.cells 27).alloc (.cells VB.cells 27)
 have xB:=Box.new' (World.size_alloc w (.cells VA.cells 27)).symm VB.cells 27
 have hb0:=(aj w (.cells VA.cells 27)).alloc (aj w (.cells VA.cells 27)).size (.cells VB.cells 27)
 have kC:=ah (fun(u:World) (hu:Below w.heap.size w u)=>qW VA A u (hA.kept hu) nA)
 have kE:=ah (fun(u:World) (hu:Below w.heap.size w u)=>qW VB B u (hB.kept hu) nB)
 unfold both
 cases rA:dM A with
 | false =>
  rw[rA] at kC
  clear hA hB hT kE
  go_enter Tryz.func12,Tryz.ntmps12
  go_wp2_with (first | (refine ak (by rfl) 27 _ rfl w.heap.size rfl _ _ _ _ xA Tryz.underlying27 rfl (ay _) ?_) | (go_at_call 37;go_must (refine(kC.out _ hb0).mono ?_;rintro e w2 ⟨rfl,hb2⟩)))
  go_ret2
  exact⟨rfl,hb0.trans (hb2.mono hb0.size)⟩
 | true =>
  rw[rA] at kC
  cases rB:dM B with
  | false =>
   rw[rB] at kE
   clear hA hB hT
   go_enter Tryz.func12,Tryz.ntmps12
   go_wp2_with (first | (refine ak (by rfl) 27 _ rfl w.heap.size rfl _ _ _ _ xA Tryz.underlying27 rfl (ay _) ?_))
   refine(kC.out _ hb0).mono ?_
   rintro e w2 ⟨rfl,hb2⟩
   have jc:=xB.kept hb2
   have hB2:=hb0.trans (hb2.mono hb0.size)
   go_wp2_with (first | (refine ak (by rfl) 27 _ rfl (w.heap.size+1) rfl _ _ _ _ jc Tryz.underlying27 rfl (ay _) ?_))
   refine(kE.out _ hB2).mono ?_
   rintro e w3 ⟨rfl,hb3⟩
   go_wp2
   go_ret2
   exact⟨rfl,hB2.trans (hb3.mono hB2.size)⟩
  | true =>
   rw[rB] at kE
   have wA:=nN rA
   have wB:=nN rB
   have HEQ:=ah (Wq wA wB)
   have HF:Hid (∀ u,Below w.heap.size w u→Calls Tryz.prog 38 #[.agg VA.cells,.agg VB.cells] u (MH u VA VB)):=ah fun u hu=>by
    obtain⟨e1,_,_⟩:=hA.lens
    obtain⟨e2,_,_⟩:=hB.lens
    have l1:=wA.le
    have l2:=wB.le
    refine Dp VA VB u (hT.kept hu) (by omega) (by omega) ?_ ?_
    ·obtain⟨_,_,_,_,h,_⟩:=hA.2.2.1.bU;exact h
    ·obtain⟨_,_,_,_,h,_⟩:=hB.2.2.1.bU;exact h
   have HG:Hid (∀ u v cb ub tb la lc,Below w.heap.size w u→Below u.heap.size u v→jy v cb ub tb v.heap.size VA VB (.slice la (eU VA.of VB.of).length lc) VA.ln VB.ln (fun i=>i) (VA.ln+VB.ln) [] none→Own v u.heap.size 5 1 dY (.slice la (eU VA.of VB.of).length lc) (eU VA.of VB.of)→u.heap.size≤cb→u.heap.size≤ub→u.heap.size≤tb →
     Calls Tryz.prog 39 #[.pointer (some ⟨cb,0,none⟩),.int .i64 0,.int .i64 0] v (ab5 u A B (eU A.of B.of) (0,0))):=ah fun u v cb ub tb la lc hu hv h1 h2 g1 g2 g3=>by
    obtain⟨e1,_,_⟩:=hA.lens
    obtain⟨e2,_,_⟩:=hB.lens
    rw[hA.1,hB.1] at h1 h2
    rw[e1,e2] at h1
    exact aeP cb ub tb VA VB A B u v (hA.kept hu) (hB.kept hu) wA wB hv _ la lc h1 h2 (Dh _ _) g1 g2 g3 0 0 wA.pos wB.pos
   clear hA hB hT wA wB nA nB
   go_enter Tryz.func12,Tryz.ntmps12
   go_wp2_with (first | (refine ak (by rfl) 27 _ rfl w.heap.size rfl _ _ _ _ xA Tryz.underlying27 rfl (ay _) ?_))
   refine(kC.out _ hb0).mono ?_
   rintro e w2 ⟨rfl,hb2⟩
   have mQ:=xA.kept hb2
   have jc:=xB.kept hb2
   have hB2:=hb0.trans (hb2.mono hb0.size)
   go_wp2_with (first | (refine ak (by rfl) 27 _ rfl (w.heap.size+1) rfl _ _ _ _ jc Tryz.underlying27 rfl (ay _) ?_))
   refine(kE.out _ hB2).mono ?_
   rintro e w3 ⟨rfl,hb3⟩
   have mV:=mQ.kept hb3
   have lH:=jc.kept hb3
   have hB3:=hB2.trans (hb3.mono hB2.size)
   clear xA xB mQ jc hB2 hb2 hb3
   go_wp2_with (first | (refine ak (by rfl) 27 _ rfl w.heap.size rfl _ _ _ _ mV Tryz.underlying27 rfl (ay _) ?_) | (refine ak (by rfl) 27 _ rfl (w.heap.size+1) rfl _ _ _ _ lH Tryz.underlying27 rfl (ay _) ?_))
   refine(HF.out _ hB3).mono ?_
   rintro e w4 ⟨cb,ub,tb,la,lc,rfl,h1,h2,h3,g1,g2,g3⟩
   have HC:=ah (HG.out _ _ cb ub tb la lc hB3 h3 h1 h2 g1 g2 g3)
   clear h1 h2 mV lH
   go_wp2_with fail
   refine HC.out.mono ?_
   rintro e w5 ⟨b,rfl,hb,hb5⟩
   have hbb:b=EG A B:=by
    rw[Bool.eq_iff_iff,hb,HEQ.out]
   have HBB:=ah hbb
   clear hb hbb
   go_wp2
   go_ret2
   exact⟨by rw[←HBB.out];rfl,hB3.trans (hb5.mono hB3.size)⟩
end
section
open Go.RowKit
theorem Gx(D:aQ)(s:List UInt8):(kZ D s).label.length=D.label.length:=by unfold kZ zx;simp
theorem PO(D:aQ)(s:List UInt8)(hs:s≠[])(k:Nat)(hk:k<D.label.length):labS (kZ D s) k=if bZ D k=s then 1 else 0:=by
 have e:labS (kZ D s) k=uF D (xZ s) k:=by
  unfold labS kZ zx
  rw[List.getD_eq_getElem?_getD,List.getElem?_map,List.getElem?_range hk];rfl
 rw[e]
 unfold uF xZ
 by_cases h:0<labS D k
 ·rw[if_pos h]
 ·rw[if_neg h]
  have:bZ D k=[]:=by unfold bZ;rw[if_neg h]
  rw[this,if_neg (fun e=>hs e.symm)]
theorem UD{D:aQ}(h:gQ D)(s:List UInt8):gQ (kZ D s):=by
 have hl:=Gx D s
 refine⟨by rw[hl];exact h.pos,by rw[hl];exact h.le,by rw[hl];exact h.nx,by show 1≤64;decide,h.wd,h.of,h.onto,h.SL,fun r hr t ht=>by rw[hl];exact h.row r hr t ht,fun k hk=>?_⟩
 have hk2:k∈(List.range D.label.length).map (uF D (xZ s)):=hk
 obtain⟨i,_,rfl⟩:=List.mem_map.1 hk2
 show 0≤uF D (xZ s) i∧uF D (xZ s) i≤((1:Nat):Int)
 unfold uF xZ
 split
 ·split <;> omega
 ·omega
theorem VI(A B:aQ)(s:List UInt8):fZ (kZ A s) (kZ B s)=fZ A B:=by
 unfold fZ
 rw[Gx,Gx]
 rfl
def Zn(A B:aQ)(s:List UInt8)(p:Nat×Nat):Bool:=decide (labS (kZ B s) p.2<labS (kZ A s) p.1)
theorem aeU{A B:aQ}(wA:gQ A)(wB:gQ B)(s:List UInt8)(hs:s≠[]):vN (Zn A B s) (fZ (kZ A s) (kZ B s))=yF A B s:=by
 rw[VI]
 unfold yF vN
 have hok:=(pJ wA wB).1.ok
 rw[Bool.eq_iff_iff,List.all_eq_true,List.all_eq_true]
 have key:∀ x∈fZ A B,Zn A B s x.1=(bZ A x.1.1==s&&bZ B x.1.2 != s):=fun x hx=>by
  obtain⟨h1,h2⟩:=hok x hx
  unfold Zn
  rw[PO A s hs _ h1,PO B s hs _ h2]
  by_cases e1:bZ A x.1.1=s
  ·by_cases e2:bZ B x.1.2=s
   ·simp[e1,e2]
   ·have:(bZ B x.1.2==s)=false:=by simp[e2]
    simp[e1,e2]
  ·by_cases e2:bZ B x.1.2=s
   ·simp[e1,e2]
   ·simp[e1,e2]
 exact⟨fun h x hx=>by have h1:=h x hx;rw[key x hx] at h1;exact h1,fun h x hx=>by rw[key x hx];exact h x hx⟩
theorem akK(U1 U2:aA)(X Y:aQ)(px py:Nat)(w:World)(hX:aZ w U1 X)(hY:aZ w U2 Y)(b1:Box w px U1.cells 27)(b2:Box w py U2.cells 27)(s t:Nat)(hs:s<X.label.length)(ht:t<Y.label.length) :
  Calls Tryz.prog 45 #[.int .i64 s,.int .i64 t,.pointer (some ⟨px,0,none⟩),.pointer (some ⟨py,0,none⟩)] w (bF w (.bool (decide (labS Y t<labS X s)))):=by
 obtain⟨e1,_,_⟩:=hX.lens
 obtain⟨e2,_,_⟩:=hY.lens
 obtain⟨g1,o1,l1,c1,c1',a1,k1⟩:=hX.2.2.1.bU
 obtain⟨g2,o2,l2,c2,c2',a2,k2⟩:=hY.2.2.1.bU
 have hla:=a1 s hs
 have hlb:=a2 t ht
 have HF:Hid (∀ v,Later w.drew v→v.cell? ⟨px,258,none⟩=some (.slice (some ⟨g1,o1,none⟩) U1.ln U1.lc)∧v.cell? ⟨py,258,none⟩=some (.slice (some ⟨g2,o2,none⟩) U2.ln U2.lc)∧v.cell? ⟨g1,o1+s,none⟩=some (.int .i64 (labS X s))∧v.cell? ⟨g2,o2+t,none⟩=some (.int .i64 (labS Y t))∧Below w.heap.size w v):=ah fun v hl=>by
  have hv:=((Below.refl _ w).drew).trans (Below.mono hl (Nat.le_refl _))
  refine⟨?_,?_,?_,?_,hv⟩
  ·rw[(b1.kept hv).ig.2.2.1,hla]
  ·rw[(b2.kept hv).ig.2.2.1,hlb]
  ·rw[k1 s hs v hv,gQ.D8 hs]
  ·rw[k2 t ht v hv,gQ.D8 ht]
 have s0:(0:Int)≤(s:Int):=by omega
 have s1:(s:Int)<(U1.ln:Int):=by omega
 have t0:(0:Int)≤(t:Int):=by omega
 have t1:(t:Int)<(U2.ln:Int):=by omega
 have n1:U1.ln≤U1.lc:=by omega
 have n2:U2.ln≤U2.lc:=by omega
 clear hX hY b1 b2 e1 e2 l1 c1 a1 k1 l2 c2 a2 k2 hla hlb
 generalize labS X s=x at *
 generalize labS Y t=y at *
 go_enter Tryz.func45,Tryz.ntmps45
 go_wp2_with fail
 refine aO (R:=Later) 12 (by kernel_rfl) ?_
 refine pl [0,1,2,3,4,5,6,7,8,9,10,11] ?_
 repeat
  refine dR ?_ rfl (fun w1 hl=>?_) ?_
  rotate_left
  ·obtain⟨q1,q2,q3,q4,_⟩:=HF.out w1 hl;have z1:=World.block_lt_of_cell? _ _ q1;have z2:=World.block_lt_of_cell? _ _ q2;have z3:=World.block_lt_of_cell? _ _ q3;have z4:=World.block_lt_of_cell? _ _ q4;go_simp;try with_reducible rfl
  simp only[eA,eB,eC,Act.put,eD,eE,eF]
 refine bV ?_
 refine aV (by kernel_rfl) (fun w1 hl=>?_) _
 have hE:=(HF.out w1 hl).2.2.2.2
 clear HF hl
 go_wp2
 go_ret
 exact⟨rfl,hE⟩
theorem BH(VA VB:aA)(A B:aQ)(s:List UInt8)(hs:s.length≤9223372036854775807)(w:World)(hA:aZ w VA A)(hB:aZ w VB B)(nA:∀ x∈A.names,x.length≤9223372036854775807)(nB:∀ x∈B.names,x.length≤9223372036854775807)(hT:Tab w) :
  Calls Tryz.prog 14 #[.agg VA.cells,.agg VB.cells,sv s] w (bF w (.tuple #[.bool (both A B&&(jh s&&yF A B s)),.int .i64 (if both A B=true then (if jh s=true then 0 else 1) else 6)])):=by
 have xA:=(Box.new w VA.cells 27).alloc (.cells VB.cells 27)
 have xB:=Box.new' (World.size_alloc w (.cells VA.cells 27)).symm VB.cells 27
 have hb0:=(aj w (.cells VA.cells 27)).alloc (aj w (.cells VA.cells 27)).size (.cells VB.cells 27)
 have kC:=ah (fun(u:World) (hu:Below w.heap.size w u)=>qW VA A u (hA.kept hu) nA)
 have kE:=ah (fun(u:World) (hu:Below w.heap.size w u)=>qW VB B u (hB.kept hu) nB)
 have mX:=ah (fun(u:World)=>A8 s u hs)
 unfold both
 cases rA:dM A with
 | false =>
  rw[rA] at kC
  clear hA hB kE hT
  go_enter Tryz.func14,Tryz.ntmps14
  go_wp2_with (first | (refine ak (by rfl) 27 _ rfl w.heap.size rfl _ _ _ _ xA Tryz.underlying27 rfl (ay _) ?_))
  refine(kC.out _ hb0).mono ?_
  rintro e w2 ⟨rfl,hb2⟩
  go_wp2
  go_ret2
  exact⟨rfl,hb0.trans (hb2.mono hb0.size)⟩
 | true =>
  rw[rA] at kC
  cases rB:dM B with
  | false =>
   rw[rB] at kE
   clear hA hB hT
   go_enter Tryz.func14,Tryz.ntmps14
   go_wp2_with (first | (refine ak (by rfl) 27 _ rfl w.heap.size rfl _ _ _ _ xA Tryz.underlying27 rfl (ay _) ?_))
   refine(kC.out _ hb0).mono ?_
   rintro e w2 ⟨rfl,hb2⟩
   have jc:=xB.kept hb2
   have hB2:=hb0.trans (hb2.mono hb0.size)
   go_wp2_with (first | (refine ak (by rfl) 27 _ rfl (w.heap.size+1) rfl _ _ _ _ jc Tryz.underlying27 rfl (ay _) ?_))
   refine(kE.out _ hB2).mono ?_
   rintro e w3 ⟨rfl,hb3⟩
   go_wp2
   go_ret2
   exact⟨rfl,hB2.trans (hb3.mono hB2.size)⟩
  | true =>
   rw[rB] at kE
   cases hn:jh s with
   | false =>
    rw[hn] at mX
    clear hA hB hT
    go_enter Tryz.func14,Tryz.ntmps14
    go_wp2_with (first | (refine ak (by rfl) 27 _ rfl w.heap.size rfl _ _ _ _ xA Tryz.underlying27 rfl (ay _) ?_))
    refine(kC.out _ hb0).mono ?_
    rintro e w2 ⟨rfl,hb2⟩
    have mQ:=xA.kept hb2
    have jc:=xB.kept hb2
    have hB2:=hb0.trans (hb2.mono hb0.size)
    go_wp2_with (first | (refine ak (by rfl) 27 _ rfl (w.heap.size+1) rfl _ _ _ _ jc Tryz.underlying27 rfl (ay _) ?_))
    refine(kE.out _ hB2).mono ?_
    rintro e w3 ⟨rfl,hb3⟩
    have mV:=mQ.kept hb3
    have lH:=jc.kept hb3
    have hB3:=hB2.trans (hb3.mono hB2.size)
    clear xA xB mQ jc hB2 hb2 hb3
    go_wp2_with fail
    refine(mX.out _).mono ?_
    rintro e w4 ⟨rfl,hb4⟩
    go_wp2
    go_ret2
    exact⟨rfl,hB3.trans (hb4.mono hB3.size)⟩
   | true =>
    have wA:=nN rA
    have wB:=nN rB
    have hne:s≠[]:=by rintro rfl;exact absurd hn (by decide)
    rw[hn] at mX
    have HOA:=ah (fun(u:World) (hu:Below w.heap.size w u)=>Xt VA A s u (hA.kept hu) nA rA hs hn)
    have HOB:=ah (fun(u:World) (hu:Below w.heap.size w u)=>Xt VB B s u (hB.kept hu) nB rB hs hn)
    have Pz:=ah (aeU wA wB s hne)
    have HM:=ah (fun(u:World) (hu:Below w.heap.size w u) (U1 U2:aA) (px py:Nat) (hX:aZ u U1 (kZ A s)) (hY:aZ u U2 (kZ B s)) (b1:Box u px U1.cells 27) (b2:Box u py U2.cells 27) =>
     ahr U1 U2 (kZ A s) (kZ B s) u hX hY (UD wA s) (UD wB s) (hT.kept hu) 45 px py (enters_of Tryz.func45 (by kernel_rfl) rfl) (Zn A B s) (fun v hv a b ha hb=>akK U1 U2 _ _ px py v (hX.kept hv) (hY.kept hv) (b1.kept hv) (b2.kept hv) a b ha hb))
    clear hA hB hT wA wB hne nA nB rA rB hn
    go_enter Tryz.func14,Tryz.ntmps14
    go_wp2_with (first | (refine ak (by rfl) 27 _ rfl w.heap.size rfl _ _ _ _ xA Tryz.underlying27 rfl (ay _) ?_))
    refine(kC.out _ hb0).mono ?_
    rintro e w2 ⟨rfl,hb2⟩
    have mQ:=xA.kept hb2
    have jc:=xB.kept hb2
    have hB2:=hb0.trans (hb2.mono hb0.size)
    go_wp2_with (first | (refine ak (by rfl) 27 _ rfl (w.heap.size+1) rfl _ _ _ _ jc Tryz.underlying27 rfl (ay _) ?_))
    refine(kE.out _ hB2).mono ?_
    rintro e w3 ⟨rfl,hb3⟩
    have mV:=mQ.kept hb3
    have lH:=jc.kept hb3
    have hB3:=hB2.trans (hb3.mono hB2.size)
    clear xA xB mQ jc hB2 hb2 hb3
    go_wp2_with fail
    refine(mX.out _).mono ?_
    rintro e w4 ⟨rfl,hb4⟩
    have tZ:=mV.kept hb4
    have ug:=lH.kept hb4
    have hB4:=hB3.trans (hb4.mono hB3.size)
    clear mV lH hB3 hb4
    go_wp2_with (first | (refine ak (by rfl) 27 _ rfl w.heap.size rfl _ _ _ _ tZ Tryz.underlying27 rfl (ay _) ?_))
    refine(HOA.out _ hB4).mono ?_
    rintro e w5 ⟨U1,rfl,hU1,hb5⟩
    have bI:=hB4.trans (hb5.mono hB4.size)
    have rY:∀ v,Below w5.heap.size w5 v→aZ v U1 (kZ A s):=fun v hv=>hU1 v fun b _ h2=>hv.block b h2
    have MI:=(ug.kept hb5).alloc (.cells U1.cells 27)
    have xU1:=Box.new w5 U1.cells 27
    have hal:=aj w5 (.cells U1.cells 27)
    have fF:=bI.trans (hal.mono bI.size)
    have HX5:=ah rY
    clear tZ ug hB4 hb5 hU1 rY
    go_wp2_with (first | (simp only[fO];refine wpList_store_row rfl 27 (.tmp 8) (.tmp 29) rfl w5.heap.size _ rfl rfl _ _ (Box.new w5 Vz.cells 27) (ay _) (aA.sizes _ _) (aA.all _) ?_;rw[pO rfl]) | (refine ak (by rfl) 27 _ rfl (w.heap.size+1) rfl _ _ _ _ MI Tryz.underlying27 rfl (ay _) ?_))
    refine(HOB.out _ fF).mono ?_
    rintro e w7 ⟨U2,rfl,O5,hb7⟩
    have iH:=fF.trans (hb7.mono fF.size)
    have hsz5:=hal.size
    have tC:∀ v,Below w7.heap.size w7 v→aZ v U1 (kZ A s)∧aZ v U2 (kZ B s):=fun v hv=>⟨HX5.out v (hal.trans ((hb7.trans (hv.mono hb7.size)).mono hsz5)),O5 v fun b _ h2=>hv.block b h2⟩
    have akL:=(xU1.kept hb7).alloc (.cells U2.cells 27)
    have xU2:=Box.new w7 U2.cells 27
    have Zo:=aj w7 (.cells U2.cells 27)
    have jZ:=iH.trans (Zo.mono iH.size)
    have PE:=ah (HM.out _ jZ U1 U2 _ _ (tC _ Zo).1 (tC _ Zo).2 akL xU2)
    clear MI xU1 hal bI fF hb7 O5 tC Zo iH
    go_wp2_with (first | (simp only[fO];refine wpList_store_row rfl 27 (.tmp 10) (.tmp 35) rfl w7.heap.size _ rfl rfl _ _ (Box.new w7 Vz.cells 27) (ay _) (aA.sizes _ _) (aA.all _) ?_;rw[pO rfl]) | (refine ak (by rfl) 27 _ rfl w5.heap.size rfl _ _ _ _ akL Tryz.underlying27 rfl (ay _) ?_) | (refine ak (by rfl) 27 _ rfl w7.heap.size rfl _ _ _ _ xU2 Tryz.underlying27 rfl (ay _) ?_))
    refine PE.out.mono ?_
    rintro e w9 ⟨rfl,mJ⟩
    rw[Pz.out]
    go_wp2
    go_ret2
    exact⟨rfl,jZ.trans (mJ.mono jZ.size)⟩
end
section
open Go.RowKit
theorem aht(w:World)(E:Nat)(xs:List UInt8)(fr:Nat×Nat)(hm:xs.length≤maxLen):au (w.alloc (.cells (xs.flatMap gI).toArray E fr)) (.slice (some ⟨w.heap.size,0,none⟩) xs.length xs.length) 1 gI xs:=by
 refine⟨_,w.heap.size,0,xs.length,rfl,Nat.le_refl _,by simpa [maxLen] using hm,.inl rfl,fun i hi j u hu=>?_⟩
 rw[World.cell?_alloc_mark]
 have hj:j=0:=by
  cases j with
  | zero=>rfl
  | succ j=>simp[gI] at hu
 subst hj
 have h2:=nR (enc:=gI) (fun _=>rfl) xs i 0 hi (by decide)
 rw[List.getElem?_toArray,show 0+i*1+0=i*1+0 by omega,h2]
 exact hu
def Ei(w:World):Prop:=∃ m,w.cell? ⟨0,0,none⟩=some (.int .i64 m)
theorem Ei.kept{w w':World}(h:Ei w)(hb:Below w.heap.size w w'):Ei w':=by
 obtain⟨m,hm⟩:=h
 exact⟨m,(hb.cell (World.block_lt_of_cell? w _ hm)).trans hm⟩
end
section
open Go.RowKit
def oN(T:List UInt8):List (List UInt8×Tr):=match uq T with | .inr R=>R | .inl _=>[]
def rU(T:List UInt8)(most:Nat):aQ:=match Az (oN T) most with | .inr D=>D | .inl _=>⟨fun _=>0,0,[],[],[]⟩
def G8(T:List UInt8)(most:Nat):Bool:=(uq T).isRight&&((Az (oN T) most).isRight&&((oN T).all (fun x=>decide (x.1.length≤9223372036854775807))&&(decide (T.length≤65536)&&(decide (1≤most)&&(decide (most≤65536)&&(dM (rU T most)&&(rU T most).names.all (fun x=>decide (x.length≤9223372036854775807))))))))
theorem aeV{T:List UInt8}(h:(uq T).isRight=true):uq T=.inr (oN T):=by
 unfold oN
 cases hs:uq T with
 | inl q=>rw[hs] at h;cases h
 | inr R=>rfl
theorem aci{T:List UInt8}{most:Nat}(h:(Az (oN T) most).isRight=true):Az (oN T) most=.inr (rU T most):=by
 unfold rU
 cases hs:Az (oN T) most with
 | inl q=>rw[hs] at h;cases h
 | inr R=>rfl
structure Du(w:World)(a:Option Addr)(c:Nat)(Rs:List (List UInt8×Vt))(R:List (List UInt8×Tr)):Prop where
 tr:Rs.map (fun x=>(x.1,x.2.tr))=R
 sl:au w (.slice a Rs.length c) 9 jk Rs
 lies:∀ i (h:i<Rs.length),Lies w Rs[i].2
theorem Du.kept{w w':World}{a:Option Addr}{c:Nat}{Rs:List (List UInt8×Vt)}{R:List (List UInt8×Tr)}(h:Du w a c Rs R)(hb:Below w.heap.size w w'):Du w' a c Rs R:=⟨h.tr,h.sl.kept hb,fun i hi=>(h.lies i hi).kept hb⟩
theorem Xv(T:List UInt8)(w:World)(hT:T.length≤65536):∃ w1,(convert 35 35 (.slice (some ⟨w.heap.size,0,none⟩) T.length T.length)).run Tryz.prog (w.alloc (.cells (T.flatMap gI).toArray 5))=.ok (.slice (some ⟨w.heap.size,0,none⟩) T.length T.length) w1 ∧
  au w1 (.slice (some ⟨w.heap.size,0,none⟩) T.length T.length) 1 gI T∧Below w.heap.size w w1∧w1.heap.size=w.heap.size+1 :=
 ⟨_,Go.Lib.run_convert_bytes_const (P:=Tryz.prog) w 35 5 (T.flatMap gI).toArray T.length T.length Tryz.underlying35 Tryz.underlying5,aht w 5 T _ (by simp[maxLen];omega),aj w _,by simp⟩
theorem Xw{T:List UInt8}(h1:(uq T).isRight=true)(h2:T.length≤65536)(hok:FD T)(u:World)(g:Nat)(hg:g<u.heap.size)(hs:au u (.slice (some ⟨g,0,none⟩) T.length T.length) 1 gI T)(hM:Ei u) :
  Calls Tryz.prog 35 #[.slice (some ⟨g,0,none⟩) T.length T.length] u fun e w'=>Below u.heap.size u w'∧∃ a c Rs,e=.returned (.tuple #[.slice a Rs.length c,.agg #[.int .i64 0,.int .i64 0]])∧Du w' a c Rs (oN T):=by
 have:=abm (g,0) T.length T.length T u hs hg hM (by omega) h2 hok
 rw[aeV h1] at this
 refine this.mono ?_
 rintro e w' ⟨hb,a,c,Rs,he,hR,hO,hL⟩
 exact⟨hb,a,c,Rs,he,hR,hO.slice zY,fun i h=>(hL i h).1⟩
theorem acj{T:List UInt8}{most:Nat}(h:G8 T most=true)(u:World)(a:Option Addr)(c:Nat)(Rs:List (List UInt8×Vt))(hR:Du u a c Rs (oN T))(hT:Tab u) :
  Calls Tryz.prog 36 #[.slice a Rs.length c,.int .i64 most] u fun e w'=>Below u.heap.size u w'∧∃ V:aA,e=.returned (.tuple #[.agg V.cells,.int .i64 0])∧(∀ v:World,Below w'.heap.size w' v→aZ v V (rU T most))∧V.of=(rU T most).of:=by
 unfold G8 at h
 simp only[Bool.and_eq_true,decide_eq_true_eq] at h
 obtain⟨_,g2,g3,_,g5,g6,_⟩:=h
 have h1:=ab1 Rs a Rs.length c most u hR.sl hR.lies (fun x hx=>by
  have:=List.all_eq_true.1 g3 (x.1,x.2.tr) (by rw[←hR.tr];exact List.mem_map.2 ⟨x,hx,rfl⟩)
  simpa using this) hT g5 g6
 rw[show Rs.map yV=oN T from hR.tr,aci g2] at h1
 refine h1.mono ?_
 rintro e w' ⟨hb,V,he,hrd,hof⟩
 exact⟨hb,V,he,fun v hv=>hrd v fun b _ hl=>hv.block b hl,hof⟩
end
end Go.Proofs.YtengfapcaaacaaaGreatDoor
