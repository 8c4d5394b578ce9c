/- The texts of T32, in few letters (mini.py). -/
import Derived.Test.YtbemonecmmnlcaaGreatDoorU31
import Derived.Lib.SlBytesConst
set_option linter.unusedVariables false
set_option linter.unusedSimpArgs false
set_option maxRecDepth 20000
set_option maxHeartbeats 6400000
namespace Go.Proofs.YtbemonecmmnlcaaGreatDoor
section
open Go.RowKit
theorem aj3(N:Nf)(V:Y3)(names:List (List UInt8))(na:Option Addr)(nc most:Nat)(w:World)(h:uo w N V)(hw:N.wf)(h0:0<N.states)(hs:N.states≤65536)(hn:ak w (.slice na names.length nc) 1 lY names)(hnl:∀ x∈names,x.length≤9223372036854775807)
  (hlk:N.links.length≤1099511627776) (he:N.edges.length≤65536) (hm1:1≤most) (hm2:most≤65536) (hT:Tab w) (h64:names.length≤1099511627776) :
  Calls Tryz.prog 101 #[.agg (dL N V),.slice na names.length nc,.int .i64 most] w (AQ w (Dz N names most)):=by
 unfold Dz
 by_cases hy:yR N names=true
 ·rw[if_pos hy]
  cases hb:jP N most (ig N) (most+1) 0 [gq N [0]] [] with
  | none=>exact Zc N V names na nc most w h hw h0 hs hn hnl hlk he hm1 hm2 hT hy hb
  | some r=>exact abW N V names na nc most w h hw h0 hs hn hnl hlk he hm1 hm2 hT hy h64 r.1 r.2 hb
 ·rw[if_neg hy]
  exact abV N V names na nc most w h hw h0 hs hn hnl (by simpa using hy)
def AX(L:List (List UInt8×Tr))(most:Nat):Sum Nat ay:=if tH L=true then (if qL (L.map (·.2))≤65536 then Dz (um (L.map (·.2))) (L.map (·.1)) most else .inl 7) else .inl 6
theorem VG{L:List (List UInt8×Tr)}(h:tH L=true):L.length≤64∧∀ x∈L,iU x.2=true:=by
 unfold tH qF at h
 simp only[Bool.and_eq_true,decide_eq_true_eq,List.all_eq_true] at h
 refine⟨h.1,fun x hx=>?_⟩
 obtain⟨i,hi,rfl⟩:=List.mem_iff_getElem.1 hx
 have:=h.2 i (List.mem_range.2 hi)
 unfold Aw at this
 rw[List.getElem?_eq_getElem hi] at this
 simp only[Bool.and_eq_true] at this
 exact this.2
theorem Uw(Rs:List (List UInt8×Vt))(a:Option Addr)(n cap most:Nat)(w:World)(h:ak w (.slice a n cap) 9 iW Rs)(hL:∀ i (h:i<Rs.length),Lies w Rs[i].2)(hnm:∀ x∈Rs,x.1.length≤9223372036854775807)(hno:tH (Rs.map zx)=false) :
  Calls Tryz.prog 57 #[.slice a n cap,.int .i64 most] w (AQ w (.inl 6)):=by
 have hb0:=aj w (.cells Vz.cells 27)
 have hy0:=Box.new w Vz.cells 27
 have HR:=ah (fun u (hu:Below w.heap.size w u)=>hno▸MH a cap n Rs u (h.kept hu) (fun i hi=>(hL i hi).kept hu) hnm)
 have hsz:Vz.cells.size=260:=au.size _
 clear h hL hnm hno
 obtain⟨W1,hW1⟩:∃ W1,w.alloc (.cells Vz.cells 27)=W1:=⟨_,rfl⟩
 rw[hW1] at hb0 hy0
 have HW1:=ah hW1
 clear hW1
 go_enter Tryz.func57,Tryz.ntmps57
 go_wp2_with fail
 simp only[jG,HW1.out]
 refine(HR.out _ hb0).mono ?_
 rintro e w2 ⟨rfl,hb2⟩
 have hy2:=hy0.kept hb2
 go_wp2_with (first | (simp only[jG];refine wpList_store_row rfl 27 _ _ rfl w.heap.size _ rfl rfl _ _ hy2 (aZ _) rfl (au.all _) ?_))
 have hfin:=hy2.setRow Vz.cells
 refine bodyPost_ret (dK rfl _ _ w.heap.size 27 _ (.int .i64 6) rfl rfl hfin Tryz.underlying27 rfl (aZ _)) rfl ?_
 exact⟨below_setRow (hb0.trans (hb2.mono hb0.size)) (Nat.le_refl _) _,rfl⟩
theorem Qo(Rs:List (List UInt8×Vt))(a:Option Addr)(n cap most:Nat)(w:World)(h:ak w (.slice a n cap) 9 iW Rs)(hL:∀ i (h:i<Rs.length),Lies w Rs[i].2)(hnm:∀ x∈Rs,x.1.length≤9223372036854775807)(hyes:tH (Rs.map zx)=true)(hT:Tab w)(hm1:1≤most)(hm2:most≤65536) :
  Calls Tryz.prog 57 #[.slice a n cap,.int .i64 most] w (AQ w (if qL (Rs.map fun x=>x.2.tr)≤65536 then Dz (um (Rs.map fun x=>x.2.tr)) (Rs.map (·.1)) most else .inl 7)):=by
 obtain⟨aeR,hall⟩:=VG hyes
 rw[List.length_map] at aeR
 have hright:∀ x∈Rs,iU x.2.tr=true:=fun x hx=>hall (zx x) (List.mem_map.2 ⟨x,hx,rfl⟩)
 have hb0:=aj w (.cells Vz.cells 27)
 have hy0:=Box.new w Vz.cells 27
 have HR:=ah (fun u (hu:Below w.heap.size w u)=>hyes▸MH a cap n Rs u (h.kept hu) (fun i hi=>(hL i hi).kept hu) hnm)
 have hsz:Vz.cells.size=260:=au.size _
 obtain⟨b,o,hn,hcap,hcap2,ha,hx⟩:=h.open
 have HX:=ah hx;have HA:=ah ha;have HN:=ah hn;have HL:=ah hL;have ug:=ah hnm;have O6:=ah hright;have HTB:=ah hT;have H64:=ah aeR
 have rH:n≤64:=by omega
 obtain⟨bodies,aeS⟩:∃ l,Rs.map (·.2)=l:=⟨_,rfl⟩
 obtain⟨names,aeT⟩:∃ l,Rs.map (·.1)=l:=⟨_,rfl⟩
 have aj6:(Rs.map fun x=>x.2.tr)=bodies.map Vt.tr:=by rw[←aeS,List.map_map];rfl
 rw[aj6,aeT]
 obtain⟨ANS,hA⟩:∃ ANS,(if qL (bodies.map Vt.tr)≤65536 then Dz (um (bodies.map Vt.tr)) names most else .inl 7)=ANS:=⟨_,rfl⟩
 rw[hA]
 have lC:=ah hA
 clear hA
 have Gn:=ah aeS;have wX:=ah aeT
 clear h hL hnm hyes hx ha hn hright hT hall aeR aeS aeT aj6
 obtain⟨W1,hW1⟩:∃ W1,w.alloc (.cells Vz.cells 27)=W1:=⟨_,rfl⟩
 rw[hW1] at hb0 hy0
 have HW1:=ah hW1
 clear hW1
 go_enter Tryz.func57,Tryz.ntmps57
 go_wp2_with fail
 simp only[jG,HW1.out]
 refine(HR.out _ hb0).mono ?_
 rintro e w2 ⟨rfl,hb2⟩
 go_wp2
 have hB2:=hb0.trans (hb2.mono hb0.size)
 have hy2:=hy0.kept hb2
 have HB2:=ah hB2;have HY2:=ah hy2
 clear hB2 hy2 hb2 hb0 hy0 HR
 go_loopw [6,7,18] (fun v6 v7 v18 wr=>∃ (k:Nat) (aB:Option Addr) (qB cB:Nat) (aN:Option Addr) (qN cN:Nat),k≤n∧v18=.int .i64 k∧v6=.slice aB qB cB∧v7=.slice aN qN cN∧Own wr w2.heap.size 151 8 Vt.cells (.slice aB qB cB) (bodies.take k)∧Own wr w2.heap.size 9 1 lY (.slice aN qN cN) (names.take k)∧Below w2.heap.size w2 wr) (fun _ _ v18 _=>n - (intOf v18).toNat)
 case atStart=>exact⟨0,none,0,0,none,0,0,Nat.zero_le _,rfl,rfl,rfl,Own.nil _ _ _ _ _,Own.nil _ _ _ _ _,Below.refl _ _⟩
 case round =>
  obtain⟨k,aB,qB,cB,aN,qN,cN,hk,rfl,rfl,rfl,hob,hon,hB⟩:=hrel
  have hBw:Below w.heap.size w wr:=HB2.out.trans (hB.mono HB2.out.size)
  by_cases hlt:k<n
  ·have hk2:k<Rs.length:=by rw[←HN.out];exact hlt
   obtain rfl:=HA.out k hk2
   have hy:∀ j u,(iW Rs[k])[j]?=some u→wr.cell? ⟨b,o+k*9+j,none⟩=some u:=fun j u hu=>by
    have:=HX.out k hk2 j u hu
    rw[hBw.cell (World.block_lt_of_cell? w _ this)];exact this
   have htb:bodies.take (k+1)=bodies.take k++[Rs[k].2]:=by
    rw[←Gn.out,←List.map_take,←List.map_take,List.take_succ_eq_append_getElem hk2,List.map_append];rfl
   have htn:names.take (k+1)=names.take k++[Rs[k].1]:=by
    rw[←wX.out,←List.map_take,←List.map_take,List.take_succ_eq_append_getElem hk2,List.map_append];rfl
   have hlb:(bodies.take k).length≤k:=List.length_take_le _ _
   have hln:(names.take k).length≤k:=List.length_take_le _ _
   generalize bodies.take k=bk at *
   generalize names.take k=nk at *
   generalize Rs[k]=x at *
   obtain⟨nm,⟨k5,s5,a5,cp5,cZ,dh,hi5⟩⟩:=x
   have y0:=hy 0 _ rfl
   have y1:=hy 1 _ rfl
   have y2:=hy 2 _ rfl
   have y3:=hy 3 _ rfl
   have y4:=hy 4 _ rfl
   have y5:=hy 5 _ rfl
   have y6:=hy 6 _ rfl
   have y7:=hy 7 _ rfl
   have y8:=hy 8 _ rfl
   have hbl:=World.block_lt_of_cell? wr _ y0
   simp only[Nat.add_zero] at y0
   have hki:(k:Int)<(n:Int):=by omega
   have hk0:(0:Int)≤(k:Int):=by omega
   obtain⟨R9,hR9⟩:∃ R9:Array Value,#[sv nm,.int .i64 k5,.int .u64 (word s5 0:Nat),.int .u64 (word s5 1:Nat),.int .u64 (word s5 2:Nat),.int .u64 (word s5 3:Nat),.slice a5 cZ.length cp5,.int .i64 dh,.int .i64 hi5]=R9:=⟨_,rfl⟩
   have hq1:=hob.open.1
   have hq2:=hon.open.1
   have hB1:=aj wr (.cells #[sv nm,.int .i64 k5,.int .u64 (word s5 0:Nat),.int .u64 (word s5 1:Nat),.int .u64 (word s5 2:Nat),.int .u64 (word s5 3:Nat),.slice a5 cZ.length cp5,.int .i64 dh,.int .i64 hi5] 153)
   have aeU:=hob.kept hB1
   have aox:=hon.kept hB1
   have hbox:=Box.new wr #[sv nm,.int .i64 k5,.int .u64 (word s5 0:Nat),.int .u64 (word s5 1:Nat),.int .u64 (word s5 2:Nat),.int .u64 (word s5 3:Nat),.slice a5 cZ.length cp5,.int .i64 dh,.int .i64 hi5] 153
   have Ol:=hB.trans (hB1.mono hB.size)
   have aoy:=ah htb;have HTN:=ah htn;have HOB:=ah hob;have IZ:=ah hon;have HQ1:=ah hq1;have HQ2:=ah hq2;have HBB:=ah hB
   have hbs:=hB.size
   clear hy htb htn hob hon hq1 hq2 hB hBw hR9
   go_wp2_with (first | (at_builtin;(refine fG rfl _ _ 145 rfl Fv DZ rfl (aeU.alloc _) ⟨wr.heap.size+1,0,none⟩ 1 (Vt.mk k5 s5 a5 cp5 cZ dh hi5) rfl (by rw[←World.size_alloc wr (.cells #[sv nm,.int .i64 k5,.int .u64 (word s5 0:Nat),.int .u64 (word s5 1:Nat),.int .u64 (word s5 2:Nat),.int .u64 (word s5 3:Nat),.slice a5 cZ.length cp5,.int .i64 dh,.int .i64 hi5] 153)];exact cu _ (Vt.cells (Vt.mk k5 s5 a5 cp5 cZ dh hi5)) _) (by simp only[maxLen];omega) (by omega) (by simp only[World.size_alloc];omega) ?_;intro a7 c7 w7 fC bZ;have hbk:=(bZ.block wr.heap.size (by simp only[World.size_alloc];omega) (fun e'=>by { have:=(HOB.out.blk e'.symm).2;omega })).trans (hbox.kept (aj _ (.cells (Vt.cells (Vt.mk k5 s5 a5 cp5 cZ dh hi5)).toArray 151)));have z0:w7.cell? ⟨wr.heap.size,0,none⟩=some (sv nm):=Box.cell hbk 0;have lz:=Box.lt hbk;have aeV:=(aox.alloc (.cells (Vt.cells (Vt.mk k5 s5 a5 cp5 cZ dh hi5)).toArray 151)).iL (aeU.alloc _) bZ (by decide))) | (at_builtin;go_must (refine fG rfl _ _ 25 rfl O9 zS rfl (aeV.alloc _) ⟨w7.heap.size,0,none⟩ 1 nm rfl (cu w7 [sv nm] _) (by simp only[maxLen];omega) (by omega) (by have:=bZ.size;simp only[World.size_alloc] at *;omega) ?_;intro a9 c9 w9 ho9 hg9)))
   have aoz:=(fC.alloc (.cells #[sv nm] 9)).iL (aeV.alloc _) hg9 (by decide)
   have hs7:=bZ.size
   have hBc:=Ol.alloc Ol.size (.cells (Vt.cells (Vt.mk k5 s5 a5 cp5 cZ dh hi5)).toArray 151)
   have kM:=below_grown hBc (aeU.alloc _) bZ (Nat.le_refl _) hBc.size
   have uX:=kM.alloc kM.size (.cells #[sv nm] 9)
   have jE:=below_grown uX (aeV.alloc _) hg9 (Nat.le_refl _) uX.size
   exact⟨⟨k+1,a7,_,c7,a9,_,c9,hlt,by push_cast;rfl,rfl,rfl,by rw[aoy.out];exact aoz,by rw[HTN.out];exact ho9,jE⟩,by simp[intOf];omega⟩
  ·obtain rfl:k=n:=by omega
   have hkb:bodies.take k=bodies:=List.take_of_length_le (by rw[←Gn.out,List.length_map,HN.out];exact Nat.le_refl _)
   have hkn:names.take k=names:=List.take_of_length_le (by rw[←wX.out,List.length_map,HN.out];exact Nat.le_refl _)
   rw[hkb] at hob
   rw[hkn] at hon
   have hq1:=hob.open.1
   have hq2:=hon.open.1
   subst hq1
   subst hq2
   have hlies:∀ i (h:i<bodies.length),Lies wr bodies[i]:=fun i hi=>by
    have hi2:i<Rs.length:=by rw[←Gn.out,List.length_map] at hi;exact hi
    have e:bodies[i]=Rs[i].2:=by simp only[←Gn.out,List.getElem_map]
    rw[e];exact(HL.out i hi2).kept hBw
   have hrt:∀ x∈bodies,iU x.tr=true:=fun x hx=>by
    rw[←Gn.out] at hx
    obtain⟨y,hy,rfl⟩:=List.mem_map.1 hx
    exact O6.out y hy
   have hb64:bodies.length≤64:=by rw[←Gn.out,List.length_map];exact H64.out
   have aq9:names.length≤64:=by rw[←wX.out,List.length_map];exact H64.out
   have aj7:=aiT bodies aB cB wr (hob.slice DZ) hlies (fun i hi=>hrt _ (List.getElem_mem hi)) hb64
   have SS:∀ x∈names,x.length≤9223372036854775807:=fun x hx=>by
    rw[←wX.out] at hx
    obtain⟨y,hy,rfl⟩:=List.mem_map.1 hx
    exact ug.out y hy
   have aj8:∀ x∈bodies.map Vt.tr,iU x=true:=fun x hx=>by
    obtain⟨y,hy,rfl⟩:=List.mem_map.1 hx
    exact hrt y hy
   have hok:=agq (bodies.map Vt.tr) (by rw[List.length_map];exact hb64)
   have hsm:=MQ (bodies.map Vt.tr) aj8
   have yO:=ah (HY2.out.kept hB);have gG:=ah hBw;have IZ:=ah hon;have zk:=ah hok;have qO:=ah hsm;have LJ:=ah aj7;have aoA:=ah SS
   have HTW:=ah (HTB.out.kept hBw)
   clear hob hon hB hlies hrt aj7 aj8 hok hsm SS hBw hkb hkn
   by_cases hbig:qL (bodies.map Vt.tr)≤65536
   ·obtain⟨hg1,hg2,hg3,hg4⟩:=qO.out hbig
    obtain⟨hwf,wK⟩:=zk.out
    have hst:(um (bodies.map Vt.tr)).states≤65536:=by unfold um;rw[hwf.st];exact hg2
    have hans:=lC.out
    rw[if_pos hbig] at hans
    have hof:=fun(V:Y3) (u:World) (hu:Below wr.heap.size wr u) (hA:uo u (um (bodies.map Vt.tr)) V)=>aj3 (um (bodies.map Vt.tr)) V names aN cN most u hA hwf wK hst ((IZ.out.kept hu).slice zS) aoA.out (by unfold um;omega) hg3 hm1 hm2 (HTW.out.kept hu) (by omega)
    rw[hans] at hof
    have IB:=ah hof
    have hnf:Calls Tryz.prog 100 #[.slice aB bodies.length cB] wr fun e w'=>Below wr.heap.size wr w'∧∃ V,uo w' (um (bodies.map Vt.tr)) V∧e=.returned (.tuple #[.agg (dL (um (bodies.map Vt.tr)) V),.int .i64 0]):=LJ.out.mono fun e w' h=>⟨h.1,by have:=h.2;rwa[if_pos hbig] at this⟩
    have Zd:=ah hnf
    clear hnf hof hans LJ qO zk hbig hg1 hg2 hg3 hg4 hwf wK hst
    generalize um (bodies.map Vt.tr)=NN at *
    go_wp2_with fail
    refine Zd.out.mono ?_
    rintro e w4 ⟨hb4,V,hA,rfl⟩
    have aj9:=IB.out V _ (hb4.alloc hb4.size (.cells (dL NN V) 157)) (hA.kept (aj w4 (.cells (dL NN V) 157)))
    have hB4:=gG.out.trans ((hb4.alloc hb4.size (.cells (dL NN V) 157)).mono gG.out.size)
    have hy4:=yO.out.kept (hb4.alloc hb4.size (.cells (dL NN V) 157))
    obtain⟨vl,ve,va⟩:=V
    obtain⟨la,lc,hvl⟩:=hA.li.form
    obtain⟨ea,ec,lZ⟩:=hA.ed.form
    obtain⟨aa,ac,hva⟩:=hA.ac.form
    dsimp only at hvl lZ hva
    subst hvl
    subst lZ
    subst hva
    unfold dL at *
    dsimp only at *
    have Xh:=ah aj9;have HB4:=ah hB4;have HY4:=ah hy4
    clear aj9 hB4 hy4 hA hb4 IB Zd
    cases ANS with
    | inl c =>
     go_wp2_with (first | (go_at_call 101;go_must (refine Xh.out.mono ?_;rintro e w5 ⟨hb5,rfl⟩;have EY:=HY4.out.kept hb5)) | (refine wpList_store_row rfl 27 _ _ rfl w.heap.size _ rfl rfl _ _ EY (aZ _) (au.sizes _ _) (au.all _) ?_))
     have hfin:=EY.setRow Vz.cells
     refine bodyPost_ret (dK rfl _ _ w.heap.size 27 _ (.int .i64 c) rfl rfl hfin Tryz.underlying27 rfl (aZ _)) rfl ?_
     exact⟨below_setRow (HB4.out.trans (hb5.mono HB4.out.size)) (Nat.le_refl _) _,rfl⟩
    | inr D =>
     go_wp2_with (first | (go_at_call 101;go_must (refine Xh.out.mono ?_;rintro e w5 ⟨hb5,V',rfl,hrd,aoB⟩;have EY:=HY4.out.kept hb5)) | (refine wpList_store_row rfl 27 _ _ rfl w.heap.size _ rfl rfl _ _ EY (aZ _) (au.sizes _ _) (au.all _) ?_))
     have hfin:=EY.setRow V'.cells
     refine bodyPost_ret (dK rfl _ _ w.heap.size 27 _ (.int .i64 0) rfl rfl hfin Tryz.underlying27 rfl (aZ _)) rfl ?_
     refine⟨below_setRow (HB4.out.trans (hb5.mono HB4.out.size)) (Nat.le_refl _) _,V',rfl,fun u hu=>hrd u (fun b hb1 hb2=>?_),aoB⟩
     have hlt:=HY4.out.lt
     have hne:b≠w.heap.size:=by have:=HB4.out.size;omega
     have hge:w.heap.size≤b:=by have:=HB4.out.size;omega
     rw[hu b hge (by rw[size_setRow];exact hb2)]
     exact setRow_other w5 _ b _ hne
   ·have hnf:Calls Tryz.prog 100 #[.slice aB bodies.length cB] wr fun e w'=>Below wr.heap.size wr w'∧e=.returned (.tuple #[.agg #[.int .i64 0,.int .i64 0,.slice none 0 0,.slice none 0 0,.slice none 0 0],.int .i64 7]):=LJ.out.mono fun e w' h=>⟨h.1,by have:=h.2;rwa[if_neg hbig] at this⟩
    have Zd:=ah hnf
    have hans:=lC.out
    rw[if_neg hbig] at hans
    subst hans
    clear hnf LJ qO zk hbig lC
    go_wp2_with (first | (go_at_call 100;go_must (refine Zd.out.mono ?_;rintro e w4 ⟨hb4,rfl⟩;have hy4:=(yO.out.kept hb4).kept (aj w4 (.cells #[.int .i64 0,.int .i64 0,.slice none 0 0,.slice none 0 0,.slice none 0 0] 157)))) | (simp only[jG];refine wpList_store_row rfl 27 _ _ rfl w.heap.size _ rfl rfl _ _ hy4 (aZ _) (au.sizes _ _) (au.all _) ?_))
    have hfin:=hy4.setRow Vz.cells
    refine bodyPost_ret (dK rfl _ _ w.heap.size 27 _ (.int .i64 7) rfl rfl hfin Tryz.underlying27 rfl (aZ _)) rfl ?_
    exact⟨below_setRow (gG.out.trans ((hb4.alloc hb4.size _).mono gG.out.size)) (Nat.le_refl _) _,rfl⟩
theorem ab1(Rs:List (List UInt8×Vt))(a:Option Addr)(n cap most:Nat)(w:World)(h:ak w (.slice a n cap) 9 iW Rs)(hL:∀ i (h:i<Rs.length),Lies w Rs[i].2)(hnm:∀ x∈Rs,x.1.length≤9223372036854775807)(hT:Tab w)(hm1:1≤most)(hm2:most≤65536) :
  Calls Tryz.prog 57 #[.slice a n cap,.int .i64 most] w (AQ w (AX (Rs.map zx) most)):=by
 unfold AX
 by_cases hr:tH (Rs.map zx)=true
 ·rw[if_pos hr,List.map_map,List.map_map]
  exact Qo Rs a n cap most w h hL hnm hr hT hm1 hm2
 ·rw[if_neg hr]
  exact Uw Rs a n cap most w h hL hnm (by simpa using hr)
end
section
open Go.RowKit
theorem ak.akc{w:World}{v:Value}{l:List Nat}(h:ak w v 1 iG l)(hb:∀ x∈l,x<256):ak w v 1 bf (l.map UInt8.ofNat):=by
 obtain⟨a,b,o,cap,rfl,hl,hc,ha,hx⟩:=h
 refine⟨a,b,o,cap,by rw[List.length_map],by rw[List.length_map];exact hl,hc,ha.imp id (fun⟨h1,h2⟩=>⟨by rw[h1];rfl,h2⟩),fun i hi j u hu=>?_⟩
 rw[List.length_map] at hi
 rw[List.getElem_map] at hu
 have h1:(UInt8.ofNat l[i]).toNat=l[i]:=UInt8.toNat_ofNat_of_lt' (hb _ (List.getElem_mem hi))
 exact hx i hi j u (by simpa [bf,iG,h1] using hu)
theorem ag6(w:World)(E:Nat)(xs:List UInt8)(fr:Nat×Nat)(hm:xs.length≤maxLen):ak (w.alloc (.cells (xs.flatMap bf).toArray E fr)) (.slice (some ⟨w.heap.size,0,none⟩) xs.length xs.length) 1 bf xs:=by
 refine⟨_,w.heap.size,0,xs.length,rfl,Nat.le_refl _,by simpa [maxLen] using hm,.inl rfl,fun i hi j u hu=>?_⟩
 rw[World.cell?_alloc_mark]
 have hj:j=0:=by
  cases j with
  | zero=>rfl
  | succ j=>simp[bf] at hu
 subst hj
 have h2:=qg (enc:=bf) (fun _=>rfl) xs i 0 hi (by decide)
 rw[List.getElem?_toArray,show 0+i*1+0=i*1+0 by omega,h2]
 exact hu
def xK(w:World):Prop:=∃ m,w.cell? ⟨0,0,none⟩=some (.int .i64 m)
theorem xK.kept{w w':World}(h:xK w)(hb:Below w.heap.size w w'):xK w':=by
 obtain⟨m,hm⟩:=h
 exact⟨m,(hb.cell (World.block_lt_of_cell? w _ hm)).trans hm⟩
end
section
open Go.RowKit
def mY(T:List UInt8):List (List UInt8×Tr):=match wE T with | .inr R=>R | .inl _=>[]
def x9(T:List UInt8)(most:Nat):ay:=match AX (mY T) most with | .inr D=>D | .inl _=>⟨fun _=>0,0,[],[],[]⟩
def QF(T:List UInt8)(most:Nat):Bool:=(wE T).isRight&&((AX (mY T) most).isRight&&((mY T).all (fun x=>decide (x.1.length≤9223372036854775807))&&(decide (T.length≤65536)&&(decide (1≤most)&&(decide (most≤65536)&&(dS (x9 T most)&&(x9 T most).names.all (fun x=>decide (x.length≤9223372036854775807))))))))
theorem aeW{T:List UInt8}(h:(wE T).isRight=true):wE T=.inr (mY T):=by
 unfold mY
 cases hs:wE T with
 | inl q=>rw[hs] at h;cases h
 | inr R=>rfl
theorem ab2{T:List UInt8}{most:Nat}(h:(AX (mY T) most).isRight=true):AX (mY T) most=.inr (x9 T most):=by
 unfold x9
 cases hs:AX (mY T) most with
 | inl q=>rw[hs] at h;cases h
 | inr R=>rfl
structure zV(w:World)(a:Option Addr)(c:Nat)(Rs:List (List UInt8×Vt))(R:List (List UInt8×Tr)):Prop where
 tr:Rs.map (fun x=>(x.1,x.2.tr))=R
 sl:ak w (.slice a Rs.length c) 9 iW Rs
 lies:∀ i (h:i<Rs.length),Lies w Rs[i].2
theorem zV.kept{w w':World}{a:Option Addr}{c:Nat}{Rs:List (List UInt8×Vt)}{R:List (List UInt8×Tr)}(h:zV w a c Rs R)(hb:Below w.heap.size w w'):zV w' a c Rs R:=⟨h.tr,h.sl.kept hb,fun i hi=>(h.lies i hi).kept hb⟩
theorem Xj(T:List UInt8)(w:World)(hT:T.length≤65536):∃ w1,(convert 35 35 (.slice (some ⟨w.heap.size,0,none⟩) T.length T.length)).run Tryz.prog (w.alloc (.cells (T.flatMap bf).toArray 5))=.ok (.slice (some ⟨w.heap.size,0,none⟩) T.length T.length) w1 ∧
  ak w1 (.slice (some ⟨w.heap.size,0,none⟩) T.length T.length) 1 bf T∧Below w.heap.size w w1∧w1.heap.size=w.heap.size+1 :=
 ⟨_,Go.Lib.run_convert_bytes_const (P:=Tryz.prog) w 35 5 (T.flatMap bf).toArray T.length T.length Tryz.underlying35 Tryz.underlying5,ag6 w 5 T _ (by simp[maxLen];omega),aj w _,by simp⟩
theorem ag7{T:List UInt8}(h1:(wE T).isRight=true)(h2:T.length≤65536)(hok:II T)(u:World)(g:Nat)(hg:g<u.heap.size)(hs:ak u (.slice (some ⟨g,0,none⟩) T.length T.length) 1 bf T)(hM:xK u) :
  Calls Tryz.prog 56 #[.slice (some ⟨g,0,none⟩) T.length T.length] u fun e w'=>Below u.heap.size u w'∧∃ a c Rs,e=.returned (.tuple #[.slice a Rs.length c,.agg #[.int .i64 0,.int .i64 0]])∧zV w' a c Rs (mY T):=by
 have:=abb (g,0) T.length T.length T u hs hg hM (by omega) h2 hok
 rw[aeW h1] at this
 refine this.mono ?_
 rintro e w' ⟨hb,a,c,Rs,he,hR,hO,hL⟩
 exact⟨hb,a,c,Rs,he,hR,hO.slice Ak,fun i h=>(hL i h).1⟩
theorem akd{T:List UInt8}{most:Nat}(h:QF T most=true)(u:World)(a:Option Addr)(c:Nat)(Rs:List (List UInt8×Vt))(hR:zV u a c Rs (mY T))(hT:Tab u) :
  Calls Tryz.prog 57 #[.slice a Rs.length c,.int .i64 most] u fun e w'=>Below u.heap.size u w'∧∃ V:au,e=.returned (.tuple #[.agg V.cells,.int .i64 0])∧(∀ v:World,Below w'.heap.size w' v→dN v V (x9 T most))∧V.of=(x9 T most).of:=by
 unfold QF at h
 simp only[Bool.and_eq_true,decide_eq_true_eq] at h
 obtain⟨_,g2,g3,_,g5,g6,_⟩:=h
 have h1:=ab1 Rs a Rs.length c most u hR.sl hR.lies (fun x hx=>by
  have:=List.all_eq_true.1 g3 (x.1,x.2.tr) (by rw[←hR.tr];exact List.mem_map.2 ⟨x,hx,rfl⟩)
  simpa using this) hT g5 g6
 rw[show Rs.map zx=mY T from hR.tr,ab2 g2] at h1
 refine h1.mono ?_
 rintro e w' ⟨hb,V,he,hrd,hof⟩
 exact⟨hb,V,he,fun v hv=>hrd v fun b _ hl=>hv.block b hl,hof⟩
end
section
open Go.RowKit
def xM(l:List Nat)(x:Nat):Bool:=decide (x∈l)
theorem Qa{l:List Nat}{x:Nat}(h:xM l x=true):x∈l:=of_decide_eq_true h
theorem Nw{l:List Nat}{x:Nat}(h:xM l x=false):x ∉ l:=of_decide_eq_false h
structure Ux(l:List Nat)(x:Nat)(l':List Nat):Prop where
 nd:l'.Nodup
 mem:∀ y,y∈l'↔y=x∨y∈l
 len:l'.length=l.length+1
theorem ag8{l:List Nat}{x:Nat}(hn:l.Nodup)(hx:x ∉ l)(k:Nat):Ux l x (l.take k++[x]++l.drop k):=by
 have hp:(l.take k++[x]++l.drop k).Perm (x::l):=by
  rw[List.append_assoc,List.singleton_append]
  exact(List.perm_middle).trans (List.Perm.cons _ (by rw[List.take_append_drop]))
 refine⟨hp.nodup_iff.2 (List.nodup_cons.2 ⟨hx,hn⟩),fun y=>?_,by rw[hp.length_eq];rfl⟩
 rw[hp.mem_iff,List.mem_cons]
def ag9(l:List Nat)(x:Nat)(w:World)(e:Ending)(w':World):Prop :=
 ∃ (l':List Nat) (a':Option Addr) (n' c':Nat),e=.returned (.slice a' n' c')∧ak w' (.slice a' n' c') 1 aG l'∧Ux l x l'∧Below w.heap.size w w'
theorem G7(l:List Nat)(a:Option Addr)(n c x:Nat)(w:World)(h:ak w (.slice a n c) 1 aG l) :
  Calls Tryz.prog 130 #[.slice a n c,.int .i64 (x:Nat)] w (bM w (.bool (xM l x))):=by
 obtain⟨b,o,hn,hc,hc2,ha,hx⟩:=ak.bY (f:=fun x:Nat=>Value.int .i64 (x:Nat)) h
 have HA:=ah ha;have HX:=ah hx;have HN:=ah hn
 have hn63:n≤9223372036854775807:=by omega
 obtain⟨r,hr⟩:∃ r,xM l x=r:=⟨_,rfl⟩
 rw[hr]
 have HR:=ah hr
 clear h hn ha hx hr
 go_enter Tryz.func130,Tryz.ntmps130
 go_wp2_with fail
 go_loopw [5] (fun i wr=>∃ k:Nat,k≤n∧i=.int .i64 k∧x ∉ l.take k∧Below w.heap.size w wr) (fun i _=>n - (intOf i).toNat)
 case atStart=>exact⟨0,Nat.zero_le _,rfl,by simp,Below.refl _ _⟩
 case round =>
  obtain⟨k,hk,rfl,hno,hB⟩:=hrel
  by_cases hlt:k<n
  ·have hkl:k<l.length:=by rw[←HN.out];exact hlt
   obtain rfl:=HA.out k hkl
   have c0:=HX.out k hkl wr hB
   have hbl:=World.block_lt_of_cell? wr _ c0
   have HT:Hid (l[k]=x→x∈l):=ah fun e=>e▸List.getElem_mem hkl
   have HT2:Hid (l[k]≠x→x ∉ l.take (k+1)):=ah fun e=>by
    rw[List.take_succ_eq_append_getElem hkl,List.mem_append,List.mem_singleton]
    rintro(h1 | h1)
    ·exact hno h1
    ·exact e h1.symm
   generalize l[k]=y at *
   have hki:(k:Int)<(n:Int):=by omega
   have hk0:(0:Int)≤(k:Int):=by omega
   clear hno
   by_cases he:y=x
   ·subst he
    have HIN:=ah (HT.out rfl)
    clear HT HT2
    go_wp2
    go_ret
    exact⟨by rw[←HR.out];unfold xM;rw[decide_eq_true HIN.out];rfl,hB⟩
   ·have f1:(y==x)=false:=by simpa using he
    have f2:((y:Int)==(x:Int))=false:=by simp;omega
    have Xe:=ah (HT2.out he)
    clear HT HT2 he
    go_wp2
    exact⟨⟨k+1,hlt,by push_cast;rfl,Xe.out,hB⟩,by simp[intOf];omega⟩
  ·obtain rfl:k=n:=by omega
   have Xe:Hid (x ∉ l):=ah (by rw[HN.out,List.take_length] at hno;exact hno)
   clear hno
   go_wp2
   go_ret
   exact⟨by rw[←HR.out];unfold xM;rw[decide_eq_false Xe.out];rfl,hB⟩
theorem Qb(l:List Nat)(a:Option Addr)(n c x:Nat)(w:World)(h:ak w (.slice a n c) 1 aG l)(hnd:l.Nodup)(hxl:x ∉ l)(hlen:l.length≤1099511627776) :
  Calls Tryz.prog 170 #[.slice a n c,.int .i64 (x:Nat)] w (ag9 l x w):=by
 have HH:Hid (Calls Tryz.prog 130 #[.slice a n c,.int .i64 (x:Nat)] w (bM w (.bool false))):=ah (by
  have:=G7 l a n c x w h
  rwa[show xM l x=false from decide_eq_false hxl] at this)
 obtain⟨b,o,hn,hc,hc2,ha,hx⟩:=ak.bY (f:=fun x:Nat=>Value.int .i64 (x:Nat)) h
 have HS:=ah h;have HA:=ah ha;have HX:=ah hx;have HN:=ah hn
 have HP:=ah (fun k=>ag8 hnd hxl k)
 rw[←hn] at hc hlen
 clear h hn ha hx hnd hxl
 go_enter Tryz.func170,Tryz.ntmps170
 go_wp2_with (go_at_call 130;go_must (refine HH.out.mono ?_;rintro e w1 ⟨rfl,hB1⟩))
 have HO0:=ah (Own.empty w1 w1.heap.size 3 1 aG (Nat.le_refl _));have HBA:=ah (aj w1 (.cells #[] 3))
 have HB1:=ah hB1
 clear hB1 HH
 go_loopw [5,6] (fun v5 v6 wr=>∃ (k:Nat) (oa:Option Addr) (oc:Nat),k≤n∧v5=.slice oa k oc∧v6=.int .i64 k∧Own wr w1.heap.size 3 1 aG (.slice oa k oc) (l.take k)∧Below w1.heap.size w1 wr) (fun _ v6 _=>n - (intOf v6).toNat)
 case atStart=>exact⟨0,_,0,Nat.zero_le _,rfl,rfl,by rw[List.take_zero];exact HO0.out,HBA.out⟩
 case round =>
  clear HO0 HBA
  obtain⟨k,oa,oc,hk,rfl,rfl,hown,hB⟩:=hrel
  have hBw:=HB1.out.trans (hB.mono HB1.out.size)
  have hw1:=hB.size
  have hxk:(l.take k).length=k:=by rw[List.length_take,←HN.out];omega
  have zy:=ah hxk
  have hk0:(0:Int)≤(k:Int):=by omega
  by_cases hgo:∃ h:k<l.length,l[k]<x
  ·obtain⟨hkl,hyx⟩:=hgo
   have hlt:k<n:=by rw[HN.out];exact hkl
   obtain rfl:=HA.out k hkl
   have c0:=HX.out k hkl wr hBw
   have hbl:=World.block_lt_of_cell? wr _ c0
   have uz:Hid (l.take (k+1)=l.take k++[l[k]]):=ah (List.take_succ_eq_append_getElem hkl)
   generalize l[k]=y at *
   generalize l.take k=xs at *
   have hki:(k:Int)<(n:Int):=by omega
   have d1:decide (y<x)=true:=decide_eq_true hyx
   have d2:decide ((y:Int)<(x:Int))=true:=decide_eq_true (by omega)
   have ho2:=hown.kept (aj wr (.cells #[.int .i64 (y:Nat)] 3))
   have HB:=ah hB
   clear hown hxk hB hyx
   go_wp2_with (at_builtin;go_must (refine dB rfl _ _ 24 rfl eX bQ rfl ho2 ⟨wr.heap.size,0,none⟩ 1 y rfl (cu wr [.int .i64 (y:Nat)] _) (by rw[zy.out];simp only[maxLen];omega) (by rw[zy.out];omega) (by rw[World.size_alloc];omega) ?_;intro a7 c7 w7 fC bZ nP))
   refine⟨⟨k+1,a7,c7,hlt,by rw[zy.out],by push_cast;rfl,by rw[uz.out];rw[zy.out] at fC;exact fC,below_grown (HB.out.alloc HB.out.size _) ho2 bZ (Nat.le_refl _) (by rw[World.size_alloc];omega)⟩,by simp[intOf];omega⟩
  ·have hpc:=HS.out.kept hBw
   have hkn:=HN.out
   have HPK:=ah (HP.out k)
   have ho2:=hown.kept (aj wr (.cells #[.int .i64 (x:Nat)] 3))
   have HB:=ah hB;have gG:=ah hBw;have HPC:=ah hpc
   have HDT:Hid ((l.drop k).take (n - k)=l.drop k):=ah (List.take_of_length_le (by rw[List.length_drop,hkn];exact Nat.le_refl _))
   have d5:decide (n<k)=false:=decide_eq_false (by omega)
   have d6:decide (c<n)=false:=decide_eq_false (by omega)
   have hi1:(k:Int)≤(n:Int):=by omega
   have hi2:(n:Int)≤(c:Int):=by omega
   by_cases hge:¬ k<n
   ·have hlt:¬ k<n:=hge
    have hki:¬ (k:Int)<(n:Int):=by omega
    generalize l.take k=xs at *
    clear hown hxk hB hBw hpc hgo hkn hge
    by_cases hcx:c=k
    ·obtain rfl:k=c:=hcx.symm
     go_wp2_with (first | (at_builtin;refine dB rfl _ _ 24 rfl eX bQ rfl ho2 ⟨wr.heap.size,0,none⟩ 1 x rfl (cu wr [.int .i64 (x:Nat)] _) (by rw[zy.out];simp only[maxLen];omega) (by rw[zy.out];omega) (by rw[World.size_alloc];omega) ?_;go_must (intro a7 c7 w7 fC bZ nP;have kM:=HB1.out.trans ((below_grown (HB.out.alloc HB.out.size _) ho2 bZ (Nat.le_refl _) (by rw[World.size_alloc];omega)).mono HB1.out.size);have hs7:=bZ.size;rw[World.size_alloc] at hs7;have hb7:=below_grown (HB.out.alloc HB.out.size _) ho2 bZ (Nat.le_refl _) (by rw[World.size_alloc];omega);have G8:=(HS.out.kept kM).piece (f:=fun x:Nat=>Value.int .i64 (x:Nat)) k n (by omega) (Nat.le_refl _);rw[HDT.out] at G8;rw[if_pos rfl,Nat.sub_self,show n - k=0 by omega] at G8;clear ho2 bZ nP)) | (at_builtin;go_must (refine oC rfl _ _ 24 rfl eX bQ rfl fC _ 0 0 rfl G8 (by rw[List.length_append,zy.out];simp[maxLen];omega) (by rw[List.length_append,zy.out];simp;omega) (by omega) ?_;intro a8 c8 w8 Jj uM hf8)))
     go_ret
     exact⟨_,_,_,_,rfl,by have:=Jj.slice bQ;rw[List.length_append] at this;exact this,HPK.out,HB1.out.trans ((below_grown hb7 fC uM (Nat.le_refl _) (by omega)).mono HB1.out.size)⟩
    ·skip
     go_wp2_with (first | (at_builtin;refine dB rfl _ _ 24 rfl eX bQ rfl ho2 ⟨wr.heap.size,0,none⟩ 1 x rfl (cu wr [.int .i64 (x:Nat)] _) (by rw[zy.out];simp only[maxLen];omega) (by rw[zy.out];omega) (by rw[World.size_alloc];omega) ?_;go_must (intro a7 c7 w7 fC bZ nP;have kM:=HB1.out.trans ((below_grown (HB.out.alloc HB.out.size _) ho2 bZ (Nat.le_refl _) (by rw[World.size_alloc];omega)).mono HB1.out.size);have hs7:=bZ.size;rw[World.size_alloc] at hs7;have hb7:=below_grown (HB.out.alloc HB.out.size _) ho2 bZ (Nat.le_refl _) (by rw[World.size_alloc];omega);have G8:=(HS.out.kept kM).piece (f:=fun x:Nat=>Value.int .i64 (x:Nat)) k n (by omega) (Nat.le_refl _);rw[HDT.out] at G8;rw[if_neg hcx] at G8;clear ho2 bZ nP)) | (at_builtin;go_must (refine oC rfl _ _ 24 rfl eX bQ rfl fC _ (n - k) (c - k) rfl G8 (by rw[List.length_append,zy.out];simp[maxLen];omega) (by rw[List.length_append,zy.out];simp;omega) (by omega) ?_;intro a8 c8 w8 Jj uM hf8)))
     go_ret
     exact⟨_,_,_,_,rfl,by have:=Jj.slice bQ;rw[List.length_append] at this;exact this,HPK.out,HB1.out.trans ((below_grown hb7 fC uM (Nat.le_refl _) (by omega)).mono HB1.out.size)⟩
   ·have hkl:k<l.length:=by omega
    obtain rfl:=HA.out k hkl
    have c0:=HX.out k hkl wr hBw
    have hbl:=World.block_lt_of_cell? wr _ c0
    have hyx:¬ l[k]<x:=fun e=>hgo ⟨hkl,e⟩
    generalize l[k]=y at *
    generalize l.take k=xs at *
    have hki:(k:Int)<(n:Int):=by omega
    have d1:decide (y<x)=false:=decide_eq_false hyx
    have d2:decide ((y:Int)<(x:Int))=false:=decide_eq_false (by omega)
    clear hown hxk hB hBw hpc hgo hkn hyx
    have hcx:¬ c=k:=by omega
    go_wp2_with (first | (at_builtin;refine dB rfl _ _ 24 rfl eX bQ rfl ho2 ⟨wr.heap.size,0,none⟩ 1 x rfl (cu wr [.int .i64 (x:Nat)] _) (by rw[zy.out];simp only[maxLen];omega) (by rw[zy.out];omega) (by rw[World.size_alloc];omega) ?_;go_must (intro a7 c7 w7 fC bZ nP;have kM:=HB1.out.trans ((below_grown (HB.out.alloc HB.out.size _) ho2 bZ (Nat.le_refl _) (by rw[World.size_alloc];omega)).mono HB1.out.size);have hs7:=bZ.size;rw[World.size_alloc] at hs7;have hb7:=below_grown (HB.out.alloc HB.out.size _) ho2 bZ (Nat.le_refl _) (by rw[World.size_alloc];omega);have G8:=(HS.out.kept kM).piece (f:=fun x:Nat=>Value.int .i64 (x:Nat)) k n (by omega) (Nat.le_refl _);rw[HDT.out] at G8;rw[if_neg hcx,show Option.map (fun x:Addr=>x.add k) (some (⟨b,o,none⟩:Addr))=some ⟨b,o+k,none⟩ by simp[Addr.add]] at G8;clear ho2 bZ nP)) | (at_builtin;go_must (refine oC rfl _ _ 24 rfl eX bQ rfl fC _ (n - k) (c - k) rfl G8 (by rw[List.length_append,zy.out];simp[maxLen];omega) (by rw[List.length_append,zy.out];simp;omega) (by omega) ?_;intro a8 c8 w8 Jj uM hf8)))
    go_ret
    exact⟨_,_,_,_,rfl,by have:=Jj.slice bQ;rw[List.length_append] at this;exact this,HPK.out,HB1.out.trans ((below_grown hb7 fC uM (Nat.le_refl _) (by omega)).mono HB1.out.size)⟩
end
section
open Go.RowKit
def lenV:Value→Nat
 | .slice _ n _=>n
 | _=>0
def akf:Value→Nat
 | .bool true=>1
 | _=>0
theorem tX{α:Type}{w:World}{a:Option Addr}{n c size:Nat}{enc:α→List Value}{xs:List α}(h:ak w (.slice a n c) size enc xs):n=xs.length:=by
 obtain⟨_,_,_,_,hv,_⟩:=h
 exact(Value.slice.inj hv).2.1
structure zA(D:ay)(l:List Nat)(k:Nat):Prop where
 nd:l.Nodup
 ok:∀ x∈l,x<D.label.length∧∃ v:List UInt8,labS D (bD D x v)≠0
 lab:∀ x,x<k→labS D x≠0→x∈l
 lt:∀ x∈l,x<k
structure EZ(D:ay)(l:List Nat):Prop where
 nd:l.Nodup
 ok:∀ x∈l,x<D.label.length∧∃ v:List UInt8,labS D (bD D x v)≠0
 lab:∀ x,x<D.label.length→labS D x≠0→x∈l
structure Rnd(D:ay)(wd N0:Nat)(l:List Nat)(m:Bool)(s k:Nat):Prop where
 len:N0≤l.length
 tr:m=true→N0<l.length
 fa:m=false→(∀ t,t<s→∀ j,j<wd→stepD D t j∈l→t∈l)∧∀ j,j<k→stepD D s j∈l→s∈l
theorem zA.zero(D:ay):zA D [] 0:=⟨List.nodup_nil,fun x hx=>(by cases hx),fun x hx=>(by omega),fun x hx=>(by cases hx)⟩
theorem zA.skip{D:ay}{l:List Nat}{k:Nat}(h:zA D l k)(h0:labS D k=0):zA D l (k+1) :=
 ⟨h.nd,h.ok,fun x hx hn=>by
  by_cases e:x=k
  ·subst e;exact absurd h0 hn
  ·exact h.lab x (by omega) hn,fun x hx=>by have:=h.lt x hx;omega⟩
theorem zA.put{D:ay}{l l':List Nat}{k:Nat}(h:zA D l k)(hk:k<D.label.length)(h0:labS D k≠0)(hp:Ux l k l'):zA D l' (k+1) :=
 ⟨hp.nd,fun x hx=>by
  rcases (hp.mem x).1 hx with rfl | hx
  ·exact⟨hk,[],h0⟩
  ·exact h.ok x hx,fun x hx hn=>by
  rw[hp.mem]
  by_cases e:x=k
  ·exact .inl e
  ·exact .inr (h.lab x (by omega) hn),fun x hx=>by
  rcases (hp.mem x).1 hx with rfl | hx
  ·omega
  ·have:=h.lt x hx;omega⟩
theorem zA.not{D:ay}{l:List Nat}{k:Nat}(h:zA D l k):k ∉ l:=fun e=>by have:=h.lt k e;omega
theorem zA.all{D:ay}{l:List Nat}(h:zA D l D.label.length):EZ D l:=⟨h.nd,h.ok,h.lab⟩
theorem zA.len{D:ay}{l:List Nat}{k:Nat}(h:zA D l k):l.length≤D.label.length:=nodup_lt_length _ l h.nd fun x hx=>(h.ok x hx).1
theorem EZ.len{D:ay}{l:List Nat}(h:EZ D l):l.length≤D.label.length:=nodup_lt_length _ l h.nd fun x hx=>(h.ok x hx).1
theorem Ze{D:ay}(hw:jF D){j wd:Nat}(hwd:D.width=(wd:Nat))(hj:j<wd)(s:Nat):∃ b:UInt8,jO D s b=stepD D s j:=by
 obtain⟨b,hb,e⟩:=hw.onto j (by omega)
 refine⟨UInt8.ofNat b,?_⟩
 rw[JW,show(UInt8.ofNat b).toNat=b by simp;omega,e]
theorem EZ.put{D:ay}(hw:jF D){l l':List Nat}{s j wd:Nat}(hwd:D.width=(wd:Nat))(h:EZ D l)(hs:s<D.label.length)(hj:j<wd)(hm:stepD D s j∈l)(hp:Ux l s l'):EZ D l' :=
 ⟨hp.nd,fun x hx=>by
  rcases (hp.mem x).1 hx with rfl | hx
  ·obtain⟨_,v,hv⟩:=h.ok _ hm
   obtain⟨b,hb⟩:=Ze hw hwd hj x
   exact⟨hs,b::v,by rw[←hb] at hv;exact hv⟩
  ·exact h.ok x hx,fun x hx hn=>(hp.mem x).2 (.inr (h.lab x hx hn))⟩
theorem EZ.done{D:ay}(hw:jF D){l:List Nat}{wd:Nat}(hwd:D.width=(wd:Nat))(h:EZ D l)(hc:∀ t,t<D.label.length→∀ j,j<wd→stepD D t j∈l→t∈l)(x:Nat)(hx:x<D.label.length):xM l x=fP D x:=by
 have key:∀ (v:List UInt8) (x:Nat),x<D.label.length→labS D (bD D x v)≠0→x∈l:=fun v=>by
  induction v with
  | nil=>exact fun x hx hn=>h.lab x hx hn
  | cons b v ih =>
   intro x hx hn
   have hob:D.of b.toNat<wd:=by have:=hw.of b.toNat b.toNat_lt;omega
   have hg:jO D x b=stepD D x (D.of b.toNat):=JW D x b
   by_cases hl:jO D x b<D.label.length
   ·have h1:=ih _ hl hn
    rw[hg] at h1
    exact hc x hx _ hob h1
   ·exact absurd (hw.bD [b] hx) hl
 rw[Um hx]
 unfold xM
 rw[Bool.eq_iff_iff,decide_eq_true_iff,List.contains_iff_mem,GR hw]
 constructor
 ·intro hm
  obtain⟨_,v,hv⟩:=h.ok x hm
  exact⟨hx,fun hd=>hv (hd v)⟩
 ·rintro⟨_,hd⟩
  unfold zG at hd
  obtain⟨v,hv⟩:=Classical.not_forall.1 hd
  exact key v x hx hv
theorem Rnd.start(D:ay)(wd:Nat)(l:List Nat):Rnd D wd l.length l false 0 0:=⟨Nat.le_refl _,fun e=>(by cases e),fun _=>⟨fun t ht=>(by omega),fun j hj=>(by omega)⟩⟩
theorem Rnd.skip{D:ay}{wd N0:Nat}{l:List Nat}{m:Bool}{s k:Nat}(h:Rnd D wd N0 l m s k)(hn:stepD D s k ∉ l):Rnd D wd N0 l m s (k+1) :=
 ⟨h.len,h.tr,fun e=>⟨(h.fa e).1,fun j hj hm=>by
  by_cases e2:j=k
  ·subst e2;exact absurd hm hn
  ·exact(h.fa e).2 j (by omega) hm⟩⟩
theorem Rnd.there{D:ay}{wd N0:Nat}{l:List Nat}{m:Bool}{s k:Nat}(h:Rnd D wd N0 l m s k)(hs:s∈l):Rnd D wd N0 l m (s+1) 0 :=
 ⟨h.len,h.tr,fun e=>⟨fun t ht j hj hm=>by
  by_cases e2:t=s
  ·subst e2;exact hs
  ·exact(h.fa e).1 t (by omega) j hj hm,fun j hj=>by omega⟩⟩
theorem Rnd.next{D:ay}{wd N0:Nat}{l:List Nat}{m:Bool}{s:Nat}(h:Rnd D wd N0 l m s wd):Rnd D wd N0 l m (s+1) 0 :=
 ⟨h.len,h.tr,fun e=>⟨fun t ht j hj hm=>by
  by_cases e2:t=s
  ·subst e2;exact(h.fa e).2 j hj hm
  ·exact(h.fa e).1 t (by omega) j hj hm,fun j hj=>by omega⟩⟩
theorem Rnd.put{D:ay}{wd N0:Nat}{l l':List Nat}{m:Bool}{s k x:Nat}(h:Rnd D wd N0 l m s k)(hp:Ux l x l'):Rnd D wd N0 l' true s (k+1) :=
 ⟨by have:=h.len;have:=hp.len;omega,fun _=>by have:=h.len;have:=hp.len;omega,fun e=>by cases e⟩
def aha(D:ay)(w:World)(e:Ending)(w':World):Prop :=
 ∃ (l:List Nat) (a:Option Addr) (n c:Nat),e=.returned (.slice a n c)∧ak w' (.slice a n c) 1 aG l∧(∀ x,x<D.label.length→xM l x=fP D x)∧Below w.heap.size w w'
theorem Zf(V:au)(D:ay)(w:World)(h:dN w V D)(hr:dS D=true):Calls Tryz.prog 129 #[.agg V.cells] w (aha D w):=by
 have hW:=yM hr
 obtain⟨n,wd,lb,lo,nb,no,rb,ro,rc,hM⟩:=machC h hW
 have hV:=h.1
 have akg:V.width=(wd:Nat):=by rw[h.2.1,hM.wide]
 have hbx0:=Box.new w V.cells 27
 have aeX:=aj w (.cells V.cells 27)
 have hbx:=hbx0.kept (aj (w.alloc (.cells V.cells 27)) (.cells #[] 3))
 have hB0:=aeX.alloc aeX.size (.cells #[] 3)
 have hs0:ak ((w.alloc (.cells V.cells 27)).alloc (.cells #[] 3)) (.slice (some ⟨w.heap.size+1,0,none⟩) 0 0) 1 aG []:=(Own.empty' (w:=w.alloc (.cells V.cells 27)) (by simp) w.heap.size 3 1 aG (by simp)).slice bQ
 obtain⟨hn1,hn2⟩:=hM.ER
 obtain⟨hw1,hw2⟩:=hM.WA
 obtain⟨ant,Ap⟩:=hM.nc
 obtain⟨aic,Oa⟩:=hM.lc
 have hDn:=hM.nl
 have Ny:=ah hDn
 have HM:=ah hM;have HW:=ah hW;have HWD:=ah hM.wide
 have HST:=ah (show _∧_∧_ from⟨hs0,hbx,hB0⟩)
 have HX:Hid (∀ u,Below w.heap.size w u→Box u w.heap.size V.cells 27→w.heap.size<u.heap.size∧u.cell? ⟨w.heap.size,256,none⟩=some (.int .i64 (wd:Nat))∧u.cell? ⟨w.heap.size,257,none⟩=some (.slice (some ⟨nb,no,none⟩) n V.nc)∧u.cell? ⟨w.heap.size,258,none⟩=some (.slice (some ⟨lb,lo,none⟩) n V.lc)):=ah fun u hu hb=>by
  have hm:=Ic hM hV hu hb (s:=0) (bn:=0) (by omega) (by decide)
  exact⟨hb.lt,by rw[hb.jV.1,akg],hm.1,hm.2.2.2.2.1⟩
 clear h hr hV akg hbx0 aeX hbx hB0 hs0 hM hW hDn
 go_enter Tryz.func129,Tryz.ntmps129
 go_wp2_with fail
 go_loopw [3,4] (fun v3 v4 wr=>∃ (k:Nat) (l:List Nat) (a:Option Addr) (m c:Nat),v3=.slice a m c∧v4=.int .i64 k∧k≤n∧ak wr (.slice a m c) 1 aG l∧zA D l k∧Box wr w.heap.size V.cells 27∧Below w.heap.size w wr) (fun _ v4 _=>n - (intOf v4).toNat)
 case atStart=>exact⟨0,[],_,0,0,rfl,rfl,Nat.zero_le _,HST.out.1,zA.zero D,HST.out.2.1,HST.out.2.2⟩
 case round =>
  clear HST
  obtain⟨k,l,a,m,c,rfl,rfl,hk,hsl,Uy,hbx,hB⟩:=hrel
  obtain⟨x0,-,-,x3⟩:=HX.out wr hB hbx
  by_cases hlt:k<n
  ·have hki:(k:Int)<(n:Int):=by omega
   have hk0:(0:Int)≤(k:Int):=by omega
   have c3:=HM.out.lab k hlt wr hB
   have l3:=World.block_lt_of_cell? wr _ c3
   have hll:=Uy.len
   have HP:=ah (fun u (hu:Below wr.heap.size wr u)=>Qb l a m c k u (hsl.kept hu) Uy.nd Uy.not (by rw[Ny.out] at hll;omega))
   have HSL:=ah hsl;have BM:=ah Uy;have yO:=ah hbx;have HB:=ah hB
   obtain⟨lk,hlk⟩:∃ lk,labS D k=lk:=⟨_,rfl⟩
   have ET:=ah hlk
   rw[hlk] at c3
   clear hsl Uy hbx hB hlk hll
   by_cases hz:lk=0
   ·subst hz
    go_wp2
    exact⟨⟨k+1,l,a,m,c,rfl,by push_cast;rfl,hlt,HSL.out,BM.out.skip ET.out,yO.out,HB.out⟩,by simp[intOf];omega⟩
   ·have hne:(lk != 0)=true:=by simpa using hz
    have HZ:=ah hz
    clear hz
    go_wp2_with (go_at_call 170;go_must (refine(HP.out wr (Below.refl _ _)).mono ?_;rintro e w2 ⟨l2,a2,m2,c2,rfl,hsl2,hput,hb2⟩))
    exact⟨⟨k+1,l2,a2,m2,c2,rfl,by push_cast;rfl,hlt,hsl2,BM.out.put (by rw[Ny.out];exact hlt) (by rw[ET.out];exact HZ.out) hput,yO.out.kept hb2,HB.out.trans (hb2.mono HB.out.size)⟩,by simp[intOf];omega⟩
  ·obtain rfl:k=n:=by omega
   have uh:EZ D l:=by have:=Uy;rw[←Ny.out] at this;exact this.all
   have HST:=ah (show _∧_∧_∧_ from⟨hsl,uh,hbx,hB⟩)
   have hki:¬ (k:Int)<(k:Int):=by omega
   clear hsl Uy uh hbx hB
   go_wp2
   go_loopw [3,5] (fun v3 v5 wr=>∃ (q:Bool) (l:List Nat) (a:Option Addr) (m c:Nat),v3=.slice a m c∧v5=.bool q∧ak wr (.slice a m c) 1 aG l∧EZ D l∧(q=false→∀ t,t<D.label.length→∀ j,j<wd→stepD D t j∈l→t∈l)∧Box wr w.heap.size V.cells 27∧Below w.heap.size w wr) (fun v3 v5 _=>2*(k - lenV v3)+akf v5)
   case atStart=>exact⟨true,l,a,m,c,rfl,rfl,HST.out.1,HST.out.2.1,fun e=>(by cases e),HST.out.2.2.1,HST.out.2.2.2⟩
   case round =>
    clear HST
    obtain⟨q,l,a,m,c,rfl,rfl,hsl,uh,hq,hbx,hB⟩:=hrel
    cases q with
    | false =>
     have HST:=ah (show _∧_∧_ from⟨hsl,uh.done HW.out HWD.out (hq rfl),hB⟩)
     clear hsl uh hq hbx hB
     go_wp2
     go_ret
     exact⟨l,a,m,c,rfl,HST.out⟩
    | true =>
     have hml:m=l.length:=tX hsl
     have HST:=ah (show _∧_∧_∧_∧_ from⟨hsl,uh,hbx,hB,hml⟩)
     clear hsl uh hq hbx hB hml
     go_wp2
     go_loopw [3,5,6] (fun v3 v5 v6 wr=>∃ (s:Nat) (q:Bool) (l2:List Nat) (a2:Option Addr) (m2 c2:Nat),v3=.slice a2 m2 c2∧v5=.bool q∧v6=.int .i64 s∧s≤k∧ak wr (.slice a2 m2 c2) 1 aG l2∧EZ D l2∧Rnd D wd l.length l2 q s 0∧Box wr w.heap.size V.cells 27∧Below w.heap.size w wr) (fun _ _ v6 _=>k - (intOf v6).toNat)
     case atStart=>exact⟨0,false,l,a,m,c,rfl,rfl,rfl,Nat.zero_le _,HST.out.1,HST.out.2.1,Rnd.start D wd l,HST.out.2.2.1,HST.out.2.2.2.1⟩
     case round =>
      obtain⟨s,q,l2,a2,m2,c2,rfl,rfl,rfl,hs,hsl,uh,hR,hbx,hB⟩:=hrel
      obtain⟨y0,-,-,y3⟩:=HX.out _ hB hbx
      by_cases hlt2:s<k
      ·have hsi:(s:Int)<(k:Int):=by omega
       have hs0:(0:Int)≤(s:Int):=by omega
       have HS2:=ah (show _∧_∧_∧_∧_ from⟨hsl,uh,hR,hbx,hB⟩)
       clear hsl uh hR hbx hB
       go_wp2
       go_loopw [3,5,7] (fun v3 v5 v7 wr=>∃ (j:Nat) (q:Bool) (l2:List Nat) (a2:Option Addr) (m2 c2:Nat),v3=.slice a2 m2 c2∧v5=.bool q∧v7=.int .i64 j∧j≤wd∧ak wr (.slice a2 m2 c2) 1 aG l2∧EZ D l2∧Rnd D wd l.length l2 q s j∧Box wr w.heap.size V.cells 27∧Below w.heap.size w wr) (fun _ _ v7 _=>wd - (intOf v7).toNat)
       case atStart=>exact⟨0,q,l2,a2,m2,c2,rfl,rfl,rfl,Nat.zero_le _,HS2.out.1,HS2.out.2.1,HS2.out.2.2.1,HS2.out.2.2.2.1,HS2.out.2.2.2.2⟩
       case round =>
        clear HS2
        obtain⟨j,q,l2,a2,m2,c2,rfl,rfl,rfl,hj,hsl,uh,hR,hbx,hB⟩:=hrel
        obtain⟨z0,z1,-,-⟩:=HX.out _ hB hbx
        by_cases hlt3:j<wd
        ·have hji:(j:Int)<(wd:Int):=by omega
         have hj0:(0:Int)≤(j:Int):=by omega
         have hll:=uh.len
         have hcp:=HM.out.cap s hlt2
         have HH:=ah (fun(x:Nat) u (hu:Below wr.heap.size wr u)=>G7 l2 a2 m2 c2 x u (hsl.kept hu))
         have HC:=ah (fun u (hu:Below wr.heap.size wr u)=>show(w.heap.size<u.heap.size∧_∧_∧_)∧_∧_ from⟨HX.out u (hB.trans (hu.mono hB.size)) (hbx.kept hu),HM.out.row s hlt2 u (hB.trans (hu.mono hB.size)),HM.out.SX s hlt2 j hlt3 u (hB.trans (hu.mono hB.size))⟩)
         have hc4:Below wr.heap.size wr wr:=Below.refl _ _
         cases hms:xM l2 s with
         | true =>
          have oW:=ah (show _∧_∧_∧_∧_ from⟨hsl,uh,hR.there (Qa hms),hbx,hB⟩)
          clear hsl uh hR hbx hB hll
          go_wp2_with (go_at_call 130;go_must (refine(HH.out _ _ hc4).mono ?_;rintro e w5 ⟨rfl,hb5⟩;rw[hms]))
          exact⟨⟨s+1,q,l2,a2,m2,c2,rfl,rfl,by push_cast;rfl,hlt2,oW.out.1.kept hb5,oW.out.2.1,oW.out.2.2.1,oW.out.2.2.2.1.kept hb5,oW.out.2.2.2.2.trans (hb5.mono oW.out.2.2.2.2.size)⟩,by simp[intOf];omega⟩
         | false =>
          have HP:=ah (fun u (hu:Below wr.heap.size wr u)=>Qb l2 a2 m2 c2 s u (hsl.kept hu) uh.nd (Nw hms) (by rw[Ny.out] at hll;omega))
          have oW:=ah (show _∧_∧_∧_∧_ from⟨hsl,uh,hR,hbx,hB⟩)
          have HMS:=ah hms
          clear hsl uh hR hbx hB hll hms
          obtain⟨t,ht⟩:∃ t,stepD D s j=t:=⟨_,rfl⟩
          have HT:=ah ht
          rw[ht] at HC
          clear ht
          generalize rb s=rbs at *
          generalize ro s=ros at *
          generalize rc s=rcs at *
          obtain⟨hcp1,hcp2⟩:=hcp
          cases hmt:xM l2 t with
          | true =>
           have HMT:=ah hmt
           clear hmt
           go_wp2_with (first | (go_at_call 130;refine(HH.out s _ hc4).mono ?_;rw[HMS.out];go_must (rintro e w5 ⟨rfl,hb5⟩;have hc5:=hc4.trans (hb5.mono hc4.size);clear hc4;obtain⟨⟨q0,q1,q2,q3⟩,q4,q5⟩:=HC.out w5 hc5;have q6:=World.block_lt_of_cell? w5 _ q4;have q7:=World.block_lt_of_cell? w5 _ q5)) | (go_at_call 130;go_must (refine(HH.out t _ hc5).mono ?_;rw[HMT.out];rintro e w6 ⟨rfl,hb6⟩;have hc6:=hc5.trans (hb6.mono hc5.size))) | (go_at_call 170;go_must (refine(HP.out _ hc6).mono ?_;rintro e w7 ⟨l3,a3,m3,c3,rfl,aoC,hput,hb7⟩)))
           have hc7:=hc6.trans (hb7.mono hc6.size)
           exact⟨⟨j+1,true,l3,a3,m3,c3,rfl,rfl,by push_cast;rfl,hlt3,aoC,oW.out.2.1.put HW.out HWD.out (by rw[Ny.out];exact hlt2) hlt3 (by rw[HT.out];exact Qa HMT.out) hput,oW.out.2.2.1.put hput,oW.out.2.2.2.1.kept hc7,oW.out.2.2.2.2.trans (hc7.mono oW.out.2.2.2.2.size)⟩,by simp[intOf];omega⟩
          | false =>
           have HMT:=ah hmt
           clear hmt
           go_wp2_with (first | (go_at_call 130;refine(HH.out s _ hc4).mono ?_;rw[HMS.out];go_must (rintro e w5 ⟨rfl,hb5⟩;have hc5:=hc4.trans (hb5.mono hc4.size);clear hc4;obtain⟨⟨q0,q1,q2,q3⟩,q4,q5⟩:=HC.out w5 hc5;have q6:=World.block_lt_of_cell? w5 _ q4;have q7:=World.block_lt_of_cell? w5 _ q5)) | (go_at_call 130;go_must (refine(HH.out t _ hc5).mono ?_;rw[HMT.out];rintro e w6 ⟨rfl,hb6⟩;have hc6:=hc5.trans (hb6.mono hc5.size))))
           exact⟨⟨j+1,q,l2,a2,m2,c2,rfl,rfl,by push_cast;rfl,hlt3,oW.out.1.kept hc6,oW.out.2.1,oW.out.2.2.1.skip (by rw[HT.out];exact Nw HMT.out),oW.out.2.2.2.1.kept hc6,oW.out.2.2.2.2.trans (hc6.mono oW.out.2.2.2.2.size)⟩,by simp[intOf];omega⟩
        ·obtain rfl:j=wd:=by omega
         have oW:=ah (show _∧_∧_∧_∧_ from⟨hsl,uh,hR.next,hbx,hB⟩)
         clear hsl uh hR hbx hB
         go_wp2
         exact⟨⟨s+1,q,l2,a2,m2,c2,rfl,rfl,by push_cast;rfl,hlt2,oW.out⟩,by simp[intOf];omega⟩
      ·obtain rfl:s=k:=by omega
       have TN:m2=l2.length:=tX hsl
       have hll:=uh.len
       rw[Ny.out] at hll
       have h1:=HST.out.2.2.2.2
       have aoD:=ah (show _∧_∧_∧_∧_∧_∧_ from⟨hsl,uh,hR,hbx,hB,TN,hll⟩)
       have Gu:=ah h1
       clear hsl uh hR hbx hB TN hll h1 HST
       go_wp2
       obtain⟨g1,g2,g3,g4,g5,g6,g7⟩:=aoD.out
       have h1:=Gu.out
       refine⟨⟨q,l2,a2,m2,c2,rfl,rfl,g1,g2,fun e t ht=>(g3.fa e).1 t (by rw[←Ny.out];exact ht),g4,g5⟩,?_⟩
       have h2:=g3.len
       have h3:=g3.tr
       show 2*(s - m2)+akf (.bool q)<2*(s - m)+1
       cases q with
       | true=>have:=h3 rfl;show 2*(s - m2)+1<_;omega
       | false=>show 2*(s - m2)+0<_;omega
end
end Go.Proofs.YtbemonecmmnlcaaGreatDoor
