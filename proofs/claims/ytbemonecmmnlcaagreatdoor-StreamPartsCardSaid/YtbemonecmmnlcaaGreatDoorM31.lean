/- The texts of S31, in few letters (mini.py). -/
import Derived.Test.YtbemonecmmnlcaaGreatDoorM30
set_option linter.unusedVariables false
set_option linter.unusedSimpArgs false
set_option maxRecDepth 20000
set_option maxHeartbeats 6400000
namespace Go.Proofs.YtbemonecmmnlcaaGreatDoor
section
open Go.RowKit
def tz:List Value:=[.slice none 0 0,.int .i64 0,.int .i64 0,.int .i64 0,.slice none 0 0,.int .i64 0,.int .i64 0,.bool false,.bool false]
theorem Qj:Tryz.prog.built 123 []=some (sC Vz tz):=by kernel_rfl
theorem VF(f:Nat→Nat)(wd:Int)(la ma:Option Addr)(ln lc mn mc:Nat):Tryz.prog.built 27 [(0,.agg (aT f)),(1,.int .i64 wd),(3,.slice la ln lc),(4,.slice ma mn mc)]=some (au.cells ⟨f,wd,none,0,0,la,ln,lc,ma,mn,mc⟩):=by
 obtain⟨it,hi⟩:∃ it,Tryz.prog.info? 27=some it:=Option.isSome_iff_exists.1 (by kernel_rfl)
 have hz0:(Tryz.prog.info? 27).map (fun it=>it.zero.map (fun z=>(z.cells.size,z.cells[257]?)))=some (some (260,some (.slice none 0 0))):=by kernel_rfl
 rw[hi] at hz0
 simp only[Option.map_some,Option.some.injEq] at hz0
 obtain⟨z,hz,hzs⟩:=Option.map_eq_some_iff.1 hz0
 obtain⟨hzs,hz8⟩:=Prod.mk.inj hzs
 rw[Em (places:=[(0,256),(256,1),(257,1),(258,1),(259,1)]) _ hi Tryz.underlying27 hz (by kernel_rfl)]
 have hs:=aO f
 have P9:=tX 0 (aT f).toList 0 z.cells
 have hgg:=fun i=>BQ 0 (aT f).toList 0 z.cells i (by rw[Array.length_toList];omega)
 rw[←BR] at P9
 simp only[←BR] at hgg
 have e0:=L8 (place:=(([(0,256),(256,1),(257,1),(258,1),(259,1)]:List (Nat×Nat)).toArray[·]?)) (cells:=z.cells) (i:=0) (off:=0) (size:=256) (v:=.agg (aT f)) (rest:=[(1,.int .i64 wd),(3,.slice la ln lc),(4,.slice ma mn mc)]) rfl hs (by omega)
 refine e0.trans ?_
 show Instr.fill _ ((aT f).zipIdx.foldl (fun cs (x:Value×Nat)=>cs.setIfInBounds (0+x.2) x.1) z.cells) _=_
 generalize (aT f).zipIdx.foldl (fun cs (x:Value×Nat)=>cs.setIfInBounds (0+x.2) x.1) z.cells=F at *
 rw[uN (off:=256) rfl rfl (by omega),uN (off:=258) rfl rfl (by rw[Array.size_setIfInBounds];omega),uN (off:=259) rfl rfl (by rw[Array.size_setIfInBounds,Array.size_setIfInBounds];omega)]
 refine congrArg some (BU (by rw[Array.size_setIfInBounds,Array.size_setIfInBounds,Array.size_setIfInBounds];omega) (fun i h=>?_) ?_ ?_ ?_ ?_)
 ·rw[Array.getElem?_setIfInBounds_ne (by omega),Array.getElem?_setIfInBounds_ne (by omega),Array.getElem?_setIfInBounds_ne (by omega),hgg i,if_pos (by rw[Array.length_toList];omega),Array.getElem?_toList,show i - (0+0)=i by omega,fF _ _ h]
 ·rw[Array.getElem?_setIfInBounds_ne (by omega),Array.getElem?_setIfInBounds_ne (by omega),Array.getElem?_setIfInBounds,if_pos rfl,if_pos (by omega)]
 ·rw[Array.getElem?_setIfInBounds_ne (by omega),Array.getElem?_setIfInBounds_ne (by omega),Array.getElem?_setIfInBounds_ne (by omega),hgg 257,if_neg (by rw[Array.length_toList];omega),hz8]
 ·rw[Array.getElem?_setIfInBounds_ne (by omega),Array.getElem?_setIfInBounds,if_pos rfl,if_pos (by rw[Array.size_setIfInBounds];omega)]
 ·rw[Array.getElem?_setIfInBounds,if_pos rfl,if_pos (by rw[Array.size_setIfInBounds,Array.size_setIfInBounds];omega)]
theorem MP{ops:Array Oper}{rest:List Oper}{o:Oper}{a:Act}{Q:Exit→Act→World→Prop}{w:World}{t:TypeId}{cells:Array Value}(hgd:o.guard=none)(ho:o.op=.build t #[])(hb:Tryz.prog.built t []=some cells)
  (h:wpList Tryz.prog ops Q rest (a.put o.dst (.agg cells)) w):wpList Tryz.prog ops Q (o::rest) a w :=
 wpList_plain hgd fun _ hK=>by
  unfold Oper.wp
  rw[tV ho rfl hb]
  exact hK _ _ h
theorem jV.oh{w:World}{sb base:Nat}{V:au}{t:List Value}{D:aF}{nx:List (List Int)}(h:jV w sb base V t D nx)(hr:sb<base)(k:Nat)(v:Value):jV (w.setCell ⟨sb,260+k,none⟩ v) sb base V (t.set k v) D nx:=by
 obtain⟨rows,h1,h2,h3⟩:=h.Tj
 exact⟨h.box.oh k v,h.of,h.width,h.lab.other _ _ hr,h.YF.other _ _ hr,rows,h1.other _ _ hr,h2,fun i p q=>(h3 i p q).other _ _ hr⟩
theorem jV.bool{w:World}{sb base:Nat}{V:au}{t:List Value}{D:aF}{nx:List (List Int)}(h:jV w sb base V t D nx){b:Nat}{c:Array Value}(hb:Box w b c 4)(i:Nat)(u:Value):jV (w.setCell ⟨b,i,none⟩ u) sb base V t D nx:=by
 obtain⟨rows,h1,h2,h3⟩:=h.Tj
 have hn:sb≠b:=fun e=>by subst e;exact absurd (h.box.jC hb) (by decide)
 exact⟨h.box.other _ _ hn,h.of,h.width,h.lab.xC hb (by decide) _ _,h.YF.xC hb (by decide) _ _,rows,h1.xC hb (by decide) _ _,h2,fun i p q=>(h3 i p q).xC hb (by decide) _ _⟩
def tzL(vb n:Nat):List Value:=[.slice (some ⟨vb,0,none⟩) n n,.int .i64 0,.int .i64 0,.int .i64 0,.slice none 0 0,.int .i64 0,.int .i64 0,.bool false,.bool false]
def agE(V:au)(D:aF)(w:World)(e:Ending)(w':World):Prop :=
 ∃ sb vb U wd lb lo nb no rb ro rc,e=.returned (.tuple #[.pointer (some ⟨sb,0,none⟩),.int .i64 0])∧w.heap.size≤sb∧sb<w'.heap.size∧zq (Mid sb w'.heap.size w') U D D.label.length wd lb lo nb no vb rb ro rc∧mG sb w'.heap.size vb D.label.length U D w' w' ⟨[],0,false,false⟩ none∧Below w.heap.size w w'
theorem agF(V:au)(D:aF)(w:World)(h:kJ w V D)(hl:∀ x∈D.names,x.length≤9223372036854775807)(hr:o9 D=true):Calls Tryz.prog 39 #[.agg V.cells] w (agE V D w):=by
 have hw:=OW hr
 obtain⟨n,wd,lb,lo,nb,no,rb,ro,rc,hm⟩:=machC h hw
 have hbx:=Box.new w V.cells 27
 have hB0:=aj w (.cells V.cells 27)
 have HR:=ah (fun u hu=>hr▸DK V D u (h.kept hu) hl)
 have Ej:=ah (fun u hu=>aaL V D u (h.kept hu) hl hr)
 have hpos:=hm.Lm.1
 have anL:=hm.Lm.2
 have hlen:(oD D).length≤n:=by
  unfold oD
  rw[kM,←hm.nl]
  exact nodup_lt_length _ _ (BK hw).1 (BK hw).2
 have hlt:∀ x∈oD D,x<n:=fun x hx=>by rw[←hm.nl];exact((L6 hw x).1 hx).1
 have hnm:=hw.names
 have nD:Hid (∀ u:World,Below w.heap.size w u→Calls Tryz.prog 80 #[.slice V.la n V.lc] u fun e w'=>∃ a c,e=.returned (.slice a n c)∧Own w' u.heap.size 3 1 encI (.slice a n c) D.label∧Below u.heap.size u w'):=ah fun u hu=>by
  have:=Ti D.label V.la V.ln V.lc u (h.kept hu).2.2.1 (by rw[hm.nl];exact hpos) (by rw[hm.nl];omega)
  unfold gu at this
  rwa[hm.ln,hm.nl] at this
 have HCN:Hid (∀ u:World,Below w.heap.size w u→Calls Tryz.prog 81 #[.slice V.ma D.names.length V.mc] u (gu u 9 1 kH D.names)):=ah fun u hu=>by
  have:=FT D.names V.ma V.mn V.mc u (h.kept hu).2.2.2.1 (by omega)
  rwa[h.lens.2.1] at this
 have HCR:Hid (∀ (k:Nat) (hk:k<n) (u:World),Below w.heap.size w u→Calls Tryz.prog 80 #[.slice (some ⟨rb k,ro k,none⟩) wd (rc k)] u (gu u 3 1 encI (D.next.getD k []))):=ah fun k hk u hu=>by
  obtain⟨_,_,_,_,rows,h5,h6,h7⟩:=h.kept hu
  have hk2:k<D.next.length:=by rw[hw.nx,hm.nl];exact hk
  obtain⟨a,c,e,hs⟩:=h7 k (by omega) hk2
  obtain⟨b5,o5,_,_,_,ha5,hx5⟩:=h5.dG (f:=fun v:Value=>v)
  have e1:=hm.row k hk u hu
  have e2:=hx5 k (by omega) u (Below.refl _ _)
  have e3:=ha5 k (by omega)
  rw[hm.na] at e3
  cases e3
  rw[e1,e] at e2
  obtain⟨rfl,e4,rfl⟩:=Value.slice.inj (Option.some.inj e2)
  rw[List.getD_eq_getElem?_getD,List.getElem?_eq_getElem hk2,Option.getD_some,e4]
  exact Ti _ _ _ _ u hs (by have:=hm.Xx;omega) (by have:=hm.Xx;omega)
 have HM:=ah hm;have HW:=ah hw;have XC:=ah hlt;have OQ:=ah h.1;have HWV:=ah h.2.1
 have hln:=hm.ln
 have hnn:=hm.nn
 have hmn:V.mn=D.names.length:=h.lens.2.1
 have anM:D.names.length≤64:=by omega
 clear h hl hr hm hw hlt hnm
 go_enter Tryz.func39,Tryz.ntmps39
 go_wp2_with (first | (refine dL (by rfl) 27 _ rfl w.heap.size rfl _ _ _ _ hbx Tryz.underlying27 rfl (bU _) ?_) | (go_at_call 40;go_must (refine(HR.out _ hB0).mono ?_;rintro e w2 ⟨rfl,hb2⟩;have hbw:=hB0.trans (hb2.mono hB0.size);have hbx2:=hbx.kept hb2)) | (refine MP rfl rfl Qj ?_))
 have hsx:=Box.new w2 (sC Vz tz) 123
 have hal:=aj w2 (.cells (sC Vz tz) 123)
 have agG:=hbx2.kept hal
 have hB3:=hbw.trans (hal.mono hbw.size)
 have agH:=hbx2.lt
 clear hbx hB0 hbx2 hbw hb2 hal HR
 generalize w2.alloc (.cells (sC Vz tz) 123)=W at *
 generalize w2.heap.size=sb at *
 have HF:Hid (∀ u,Later W.drew u→Box u w.heap.size V.cells 27∧Box u sb (sC Vz tz) 123∧Below w.heap.size w u):=ah fun u hu=>by
  have h1:Below W.heap.size W u:=((Below.refl _ _).drew).trans (hu.mono (Nat.le_refl _))
  exact⟨agG.kept h1,hsx.kept h1,hB3.trans (h1.mono hB3.size)⟩
 clear agG hsx hB3
 refine aW (R:=Later) 15 (by kernel_rfl) ?_
 refine pl [0,1] ?_
 repeat
  refine jW ?_ rfl (fun w1 hl=>?_) ?_
  rotate_left
  ·skip;go_simp;try with_reducible rfl
  simp only[eA,eB,eC,Act.put,eD,eE,eF]
 refine eX ?_
 refine kP 2 (.agg (aT V.of)) rfl (fun w1 hl=>?_) ?_
 ·exact CG 22 _ rfl w.heap.size 0 rfl (HF.out w1 hl).1.vk Tryz.underlying22 rfl (by rw[Array.length_toList,aO];rfl)
 simp only[List.getElem_toArray,List.getElem_cons_zero,List.getElem_cons_succ,Act.put,List.setIfInBounds_toArray,List.set_cons_zero,List.set_cons_succ]
 refine pl [3,4,5,6,8,9] ?_
 repeat
  refine jW ?_ rfl (fun w1 hl=>?_) ?_
  rotate_left
  ·obtain⟨x0,x1,x2,x3⟩:=(HF.out w1 hl).1.rG;have l0:=(HF.out w1 hl).1.lt;go_simp;try with_reducible rfl
  simp only[eA,eB,eC,Act.put,eD,eE,eF]
 refine eX ?_
 refine aQ (t:=15) (i:=7) (by kernel_rfl) rfl (fun w1 hl K hK=>?_)
 obtain⟨hX,hS,hB⟩:=HF.out w1 hl
 clear hl HF
 go_simp
 refine(nD.out w1 hB).mono ?_
 rintro e w3 ⟨AB,zn,rfl,hoL,hbL⟩
 refine hK.out _ _ (fun _=>hbL) ?_
 have agI:=hoL.mono (show sb+1≤w1.heap.size from hS.lt)
 have dV:=hX.kept hbL
 have hS3:=hS.kept hbL
 have hB3:=hB.trans (hbL.mono hB.size)
 clear hK K hX hS hB hbL hoL
 refine aQ (t:=15) (i:=10) (by kernel_rfl) rfl (fun w1 hl K hK=>?_)
 have agJ:=agI.kept hl
 have fU:=dV.kept hl
 have hS4:=hS3.kept hl
 have hB4:=hB3.trans (hl.mono hB3.size)
 clear hl agI dV hS3 hB3
 go_simp
 refine(HCN.out w1 hB4).mono ?_
 rintro e w5 ⟨AL,AO,rfl,hoN,hbN⟩
 refine hK.out _ _ (fun _=>hbN) ?_
 have abd:=hoN.mono (show sb+1≤w1.heap.size from hS4.lt)
 have abe:=agJ.kept hbN
 have Ai:=fU.kept hbN
 have hS5:=hS4.kept hbN
 have dw:=hB4.trans (hbN.mono hB4.size)
 clear hK K fU hS4 hB4 hbN hoN agJ
 refine kP 11 (.agg (au.cells ⟨V.of,V.width,none,0,0,AB,n,zn,AL,D.names.length,AO⟩)) rfl (fun w1 hl=>?_) ?_
 ·exact tV rfl (by rfl) (VF V.of V.width AB AL n zn D.names.length AO)
 simp only[List.getElem_toArray,List.getElem_cons_zero,List.getElem_cons_succ,Act.put,List.setIfInBounds_toArray,List.set_cons_zero,List.set_cons_succ]
 refine pl [12,13,14] ?_
 repeat
  refine jW ?_ rfl (fun w1 hl=>?_) ?_
  rotate_left
  ·skip;go_simp;try with_reducible rfl
  simp only[eA,eB,eC,Act.put,eD,eE,eF]
 refine eX ?_
 refine aQ (t:=15) (i:=15) (by kernel_rfl) rfl (fun w1 hl K hK=>?_)
 have hN0:jV (w1.setCells sb 0 (au.cells ⟨V.of,V.width,none,0,0,AB,n,zn,AL,D.names.length,AO⟩).toList) sb (sb+1) ⟨V.of,V.width,none,0,0,AB,n,zn,AL,D.names.length,AO⟩ tz D []:=by
  have ho:=mF (b:=sb) (au.cells ⟨V.of,V.width,none,0,0,AB,n,zn,AL,D.names.length,AO⟩).toList 0 w1
  exact⟨(hS5.kept hl).akq _,OQ.out,HWV.out,(abe.kept hl).dh fun g hg=>ho.1 g (by have:=(abe.bY g hg).1;omega),(abd.kept hl).dh fun g hg=>ho.1 g (by have:=(abd.bY g hg).1;omega),[],Own.nil _ _ _ _ _,rfl,fun i h1=>by simp at h1⟩
 have rV:Box (w1.setCells sb 0 (au.cells ⟨V.of,V.width,none,0,0,AB,n,zn,AL,D.names.length,AO⟩).toList) w.heap.size V.cells 27:=((mF (b:=sb) _ 0 w1).1 _ (by omega)).trans (Ai.kept hl)
 have lH:Below w.heap.size w (w1.setCells sb 0 (au.cells ⟨V.of,V.width,none,0,0,AB,n,zn,AL,D.names.length,AO⟩).toList):=by
  obtain⟨o1,o2,o3,o4,o5⟩:=mF (b:=sb) (au.cells ⟨V.of,V.width,none,0,0,AB,n,zn,AL,D.names.length,AO⟩).toList 0 w1
  have hB1:=dw.trans (hl.mono dw.size)
  exact⟨o3.trans hB1.os,o4.trans hB1.tape,o5.trans hB1.output,by rw[o2];exact hB1.size,fun b hb=>(o1 b (by omega)).trans (hB1.block b hb)⟩
 refine eP (by rfl) ?_
 refine wp_store_mid 27 _ _ rfl sb 0 _ rfl rfl ((hS5.kept hl).agC _) (bU _) (au.all _) ?_
 refine hK.out _ _ (fun h=>absurd rfl h) ?_
 clear hK K hl hS5 abe abd Ai dw
 simp only[List.getElem_toArray,List.getElem_cons_zero,List.getElem_cons_succ,Act.put,List.setIfInBounds_toArray,List.set_cons_zero,List.set_cons_succ]
 generalize w1.setCells sb 0 (au.cells ⟨V.of,V.width,none,0,0,AB,n,zn,AL,D.names.length,AO⟩).toList=W6 at *
 refine bC (by kernel_rfl) (fun w1 hl=>?_) _
 have hN7:=hN0.kept hl
 have FP:=rV.kept hl
 have sK:=lH.trans (hl.mono lH.size)
 clear hN0 rV lH hl
 have y1:w1.cell? ⟨w.heap.size,257,none⟩=some (.slice (some ⟨nb,no,none⟩) n V.nc):=by rw[FP.rG.2.1,HM.out.na,HM.out.nn]
 have l1:=FP.lt
 have HN7:=ah hN7;have HX7:=ah FP;have Yy:=ah sK
 have hnc:=HM.out.nc
 have hnx:D.next.length=n:=by rw[HW.out.nx,HM.out.nl]
 clear hN7 FP sK
 go_wp2_with fail
 go_loopw [32] (fun i wr=>∃ (k c:Nat) (a:Option Addr),k≤n∧i=.int .i64 k∧jV wr sb (sb+1) ⟨V.of,V.width,a,k,c,AB,n,zn,AL,D.names.length,AO⟩ tz D (D.next.take k)∧Box wr w.heap.size V.cells 27∧Below w.heap.size w wr) (fun i _=>n - (intOf i).toNat)
 case atStart=>exact⟨0,0,none,Nat.zero_le _,rfl,by rw[List.take_zero];exact HN7.out,HX7.out,Yy.out⟩
 case round =>
  clear y1 l1
  obtain⟨k,c,a,hk,rfl,hN,hX,hB⟩:=hrel
  by_cases hlt:k<n
  ·have hc0:=HM.out.row k hlt wr hB
   have hbl:=World.block_lt_of_cell? wr _ hc0
   have hki:(k:Int)<(n:Int):=by omega
   have hk0:(0:Int)≤(k:Int):=by omega
   have hcr:=HCR.out k hlt
   have htk:D.next.take (k+1)=D.next.take k++[D.next.getD k []]:=by
    rw[List.getD_eq_getElem?_getD,List.getElem?_eq_getElem (by rw[hnx];exact hlt),Option.getD_some];exact List.take_succ_eq_append_getElem _
   have wF:=ah htk
   have hrow:(D.next.getD k []).length=wd:=by
    rw[List.getD_eq_getElem?_getD,List.getElem?_eq_getElem (by rw[hnx];exact hlt),Option.getD_some]
    have:=HW.out.Gx _ (List.getElem_mem (show k<D.next.length by rw[hnx];exact hlt))
    have:=HM.out.wide
    omega
   have hcr2:Hid (∀ u:World,Below w.heap.size w u→Calls Tryz.prog 80 #[.slice (some ⟨rb k,ro k,none⟩) wd (rc k)] u (fun e w'=>∃ a c,e=.returned (.slice a wd c)∧Own w' u.heap.size 3 1 encI (.slice a wd c) (D.next.getD k [])∧Below u.heap.size u w')):=ah fun u hu=>by
    have:=hcr u hu
    unfold gu at this
    rwa[hrow] at this
   have hnl:(D.next.take k).length=k:=by rw[List.length_take];omega
   have HN:=ah hN;have HX:=ah hX;have HB:=ah hB;have Ed:=ah hnl
   clear hN hX hB hcr htk hrow hnl
   go_wp2_with fail
   have HF2:Hid (∀ u,Later wr.drew u→jV u sb (sb+1) ⟨V.of,V.width,a,k,c,AB,n,zn,AL,D.names.length,AO⟩ tz D (D.next.take k)∧Box u w.heap.size V.cells 27∧Below w.heap.size w u):=ah fun u hu=>by
    have h1:Below wr.heap.size wr u:=((Below.refl _ _).drew).trans (hu.mono (Nat.le_refl _))
    exact⟨HN.out.kept h1,HX.out.kept h1,HB.out.trans (h1.mono HB.out.size)⟩
   clear HN HX HB hc0 hbl
   refine iQ (R:=Later) [10,15] (by kernel_rfl) ?_
   refine pl [0,1,2,3,4,5] ?_
   repeat
    refine oM ?_ rfl (fun w1=>?_) ?_
    rotate_left
    ·go_simp;try with_reducible rfl
    simp only[eA,eB,eC,Act.put,eD,eE,eF]
   refine eX ?_
   refine Ce 6 ?_ rfl (fun w1 hl=>?_) ?_
   rotate_left
   ·obtain⟨hN,_,_⟩:=HF2.out w1 hl;have c1:w1.cell? ⟨sb,257,none⟩=some (.slice a k c):=(hN.box.cell 257).trans ((tY _ _ _ (by decide)).trans (au.uI _));have lb1:=hN.box.lt;go_simp;try with_reducible rfl
   simp only[eA,eB,eC,Act.put,eD,eE,eF]
   refine Nr 7 ?_ rfl (fun w1=>?_) ?_
   rotate_left
   ·go_simp;try with_reducible rfl
   simp only[eA,eB,eC,Act.put,eD,eE,eF]
   refine dP (T:=[10,15]) (i:=8) (by kernel_rfl) rfl (fun w1 hl K hK=>?_)
   obtain⟨hN,hX,hB⟩:=HF2.out w1 hl
   clear hl HF2
   go_simp
   refine(hcr2.out w1 hB).mono ?_
   rintro e w3 ⟨a2,c2,rfl,hoR,hbR⟩
   refine hK.out _ _ (fun _=>hbR) ?_
   have agK:=hoR.mono (show sb+1≤w1.heap.size from hN.box.lt)
   have hN3:=hN.kept hbR
   have dV:=hX.kept hbR
   have hB3:=hB.trans (hbR.mono hB.size)
   clear hK K hN hX hB hbR hoR
   refine dP (T:=[10,15]) (i:=9) (by kernel_rfl) rfl (fun w1 hl K hK=>?_)
   have agL:=agK.kept hl
   have YG:=hN3.kept hl
   have fU:=dV.kept hl
   have hB4:=hB3.trans (hl.mono hB3.size)
   clear hl agK hN3 dV hB3
   go_simp
   refine hK.out _ _ (fun _=>aj _ _) ?_
   have hsl:=ny BZ w1 24 [(a2,wd,c2)] (by simp[maxLen])
   have hal:=aj w1 (.cells #[.slice a2 wd c2] 24)
   have agM:=agL.kept hal
   have SQ:=YG.kept hal
   have Ai:=fU.kept hal
   have dw:=hB4.trans (hal.mono hB4.size)
   clear hK K agL YG fU hB4 hal
   refine dP (T:=[10,15]) (i:=10) (by kernel_rfl) rfl (fun w1 hl K hK=>?_)
   have agN:=agM.kept hl
   have MB:=SQ.kept hl
   have rV:=Ai.kept hl
   have lH:=dw.trans (hl.mono dw.size)
   have hnw:=zY (hsl.kept hl)
   clear hsl hl agM SQ Ai dw
   obtain⟨rows,h1,h2,h3⟩:=MB.Tj
   have hrl:rows.length=k:=h2.trans Ed.out
   have anN:=MB.box.lt
   refine eP (by rfl) ?_
   refine lF _ _ 23 rfl VD BZ rfl h1 _ 1 (a2,wd,c2) rfl hnw (by simp[maxLen];omega) (by omega) (by omega) ?_
   intro a' cap' w' ho hg hfr
   refine hK.out _ _ (fun h=>absurd h (by decide)) ?_
   clear hK K hnw hfr
   simp only[List.getElem_toArray,List.getElem_cons_zero,List.getElem_cons_succ,Act.put,List.setIfInBounds_toArray,List.set_cons_zero,List.set_cons_succ]
   rw[hrl] at ho ⊢
   have lZ:=MB.box.iG h1 hg (by decide)
   have FP:=rV.iG h1 hg (by decide)
   have sK:Below w.heap.size w w':=⟨hg.os.trans lH.os,hg.tape.trans lH.tape,hg.output.trans lH.output,Nat.le_trans lH.size hg.size,fun b hb=>(hg.block b (by have:=lH.size;omega) (fun e=>by have:=(h1.bY b e.symm).1;omega)).trans (lH.block b hb)⟩
   have HR7:Hid (∀ u,Later w' u→jV (u.setCell ⟨sb,257,none⟩ (.slice a' (k+1) cap')) sb (sb+1) ⟨V.of,V.width,a',k+1,cap',AB,n,zn,AL,D.names.length,AO⟩ tz D (D.next.take k++[D.next.getD k []])):=ah fun u hu=>MB.row (Nat.lt_succ_self _) h1 h2 h3 hg ho agN hu
   clear MB h1 h2 h3 hg ho agN rV lH hrl
   refine pl [11,12,13,14] ?_
   repeat
    refine oM ?_ rfl (fun w1=>?_) ?_
    rotate_left
    ·go_simp;try with_reducible rfl
    simp only[eA,eB,eC,Act.put,eD,eE,eF]
   refine eX ?_
   refine dP (T:=[10,15]) (i:=15) (by kernel_rfl) rfl (fun w1 hl K hK=>?_)
   have VG:=lZ.kept hl
   have P5:=FP.kept hl
   have yw:=sK.trans (hl.mono sK.size)
   have hN8:=HR7.out w1 hl
   have c1:w1.cell? ⟨sb,257,none⟩=some (.slice a k c):=(VG.cell 257).trans ((tY _ _ _ (by decide)).trans (au.uI _))
   have f1:=VG.free 257
   have lb1:=VG.lt
   have WZ:=P5.other ⟨sb,257,none⟩ (.slice a' (k+1) cap') (by show w.heap.size≠sb;omega)
   have mQ:Below w.heap.size w (w1.setCell ⟨sb,257,none⟩ (.slice a' (k+1) cap')):=yw.setCell (by show w.heap.size≤sb;omega) _
   clear hl VG lZ HR7 FP P5 sK yw
   go_simp
   refine hK.out _ _ (fun h=>absurd h (by decide)) ?_
   clear hK K c1 f1 lb1
   rw[←wF.out] at hN8
   generalize w1.setCell ⟨sb,257,none⟩ (.slice a' (k+1) cap')=W9 at *
   refine lC (by kernel_rfl) (fun w1 hl=>?_) _
   have agP:=hN8.kept hl
   have agQ:=WZ.kept hl
   have Vh:=mQ.trans (hl.mono mQ.size)
   have akr:=ah agP;have aks:=ah agQ;have akt:=ah Vh
   have hw1:IntKind.i64.wrap ((k:Int)+1)=(k:Int)+1:=IntWalk.i64_in _ (by omega)
   clear hN8 WZ mQ agP agQ Vh hl wF hcr2
   go_wp2
   exact⟨⟨k+1,cap',a',hlt,by push_cast;rfl,akr.out,aks.out,akt.out⟩,by simp[intOf];omega⟩
  ·obtain rfl:k=n:=by omega
   rw[List.take_of_length_le (by omega)] at hN
   have q2:wr.cell? ⟨w.heap.size,258,none⟩=some (.slice V.la k V.lc):=by rw[hX.rG.2.2.1,HM.out.ln]
   have lx:=hX.lt
   have hvs:=hN.box.lt
   have HN:=ah hN;have HX:=ah hX;have HB:=ah hB
   clear hN hX hB
   go_wp2_with (first | (refine oJ rfl 119 _ _ rfl Lr OZ false rfl k rfl rfl (by omega) (by simp only[maxLen];omega) (sb+1) (by omega) ?_;intro w3 IE hw3;have hb3:Below wr.heap.size wr w3:=by { rw[hw3];exact aj _ _ };have hs3:w3.heap.size=wr.heap.size+1:=by { rw[hw3,World.size_alloc] };have hN3:=HN.out.kept hb3;have q3:w3.cell? ⟨sb,260,none⟩=some (.slice none 0 0):=hN3.box.fV 0;have f3:=hN3.box.free 260;have l3:=hN3.box.lt;have YG:jV (w3.setCell ⟨sb,260,none⟩ (.slice (some ⟨wr.heap.size,0,none⟩) k k)) sb (sb+1) _ (tzL wr.heap.size k) D D.next:=hN3.oh (Nat.lt_succ_self _) 0 (.slice (some ⟨wr.heap.size,0,none⟩) k k);have fU:Box (w3.setCell ⟨sb,260,none⟩ (.slice (some ⟨wr.heap.size,0,none⟩) k k)) w.heap.size V.cells 27:=(HX.out.kept hb3).other _ _ (by show w.heap.size≠sb;omega);have hB4:Below w.heap.size w (w3.setCell ⟨sb,260,none⟩ (.slice (some ⟨wr.heap.size,0,none⟩) k k)):=(HB.out.trans (hb3.mono HB.out.size)).setCell (by show w.heap.size≤sb;omega) _;have hm4:=IE.other ⟨sb,260,none⟩ (.slice (some ⟨wr.heap.size,0,none⟩) k k) (Nat.lt_succ_self _);have HN4:=ah YG;have HB4:=ah hB4;have HM4:=ah hm4;clear hw3 IE hb3 hN3 YG hB4 hm4 HN HX HB q2) | (refine dL (by rfl) 27 _ rfl w.heap.size rfl _ _ _ _ fU Tryz.underlying27 rfl (bU _) ?_) | (go_at_call 82;go_must (refine(Ej.out _ HB4.out).mono ?_;rintro e w6 ⟨la6,lc6,rfl,wI,hb6⟩)))
   have MB:=HN4.out.kept hb6
   have lH:=HB4.out.trans (hb6.mono HB4.out.size)
   have LX:=HM4.out.kept hb6
   rw[←O1] at LX
   have hvl:=LX.blk (g:=wr.heap.size) rfl
   have Bl:(w3.setCell ⟨sb,260,none⟩ (.slice (some ⟨wr.heap.size,0,none⟩) k k)).heap.size=wr.heap.size+1:=by rw[World.size_setCell,hs3]
   obtain⟨_,hlc,aam,g,hga,hgx⟩:=wI.IX
   have agR:∀ j,j<(oD D).length→g≠wr.heap.size:=fun j hj e=>by
    have h1:=wI.blk (g:=g) (by rw[(hga j hj).1];rfl)
    omega
   have Yl:=ah MB;have Lu:=ah lH;have P7:=ah LX;have D8:=ah hga;have Sl:=ah hgx;have XQ:=ah agR
   generalize hL:oD D=L at D8 Sl XQ XC hlc hlen ⊢
   have HLQ:=ah hL
   obtain⟨m,hm⟩:∃ m,L.length=m:=⟨_,rfl⟩
   have HLEN:=ah hm
   simp only[hm] at hlc hlen ⊢
   clear MB lH LX hga hgx agR hm wI fU hb6 hvl HN4 HB4 HM4 hL Bl q3 f3 l3 hs3
   generalize wr.heap.size=vb at *
   go_loopw [63] (fun i wq=>∃ q:Nat,q≤m∧i=.int .i64 q∧jV wq sb (sb+1) ⟨V.of,V.width,a,k,c,AB,k,zn,AL,D.names.length,AO⟩ (tzL vb k) D D.next∧Own wq (sb+1) 4 1 EL (.slice (some ⟨vb,0,none⟩) k k) (pq k (L.take q))∧Below w.heap.size w wq∧∀ b,b≠vb→wq.heap[b]?=w6.heap[b]?) (fun i _=>m - (intOf i).toNat)
   case atStart=>exact⟨0,Nat.zero_le _,rfl,Yl.out,by rw[List.take_zero];exact P7.out,Lu.out,fun _ _=>rfl⟩
   case round =>
    obtain⟨q,hq,rfl,hN,Qk,hB,hk6⟩:=hrel
    by_cases hqm:q<m
    ·have hlk:q<L.length:=by rw[HLEN.out];exact hqm
     obtain⟨rfl,hgl⟩:=D8.out q hlk
     have c0:=Sl.out wr q hlk (hk6 g (XQ.out q hlk))
     have hsn:=XC.out _ (List.getElem_mem hlk)
     have htk:L.take (q+1)=L.take q++[L[q]]:=List.take_succ_eq_append_getElem hlk
     generalize L[q]=s at *
     have hcbl:=World.block_lt_of_cell? wr _ c0
     have hsl:=nU k (L.take q)
     obtain⟨g1,g2,g3,g4⟩:=Qk.cellAt (i:=s) (j:=0) (by rw[hsl];exact hsn) (by decide)
     rw[show s*1+0=s by omega] at g1 g2
     have g1':wr.cell? ⟨vb,s,none⟩=some (.bool ((pq k (L.take q))[s]'(by rw[hsl];exact hsn))):=by rw[g1];rfl
     have hlive:wr.cell? ⟨sb,260,none⟩=some (.slice (some ⟨vb,0,none⟩) k k):=hN.box.fV 0
     have hcl:=hN.box.lt
     obtain⟨_,cv,hbv⟩:=Qk.block vb rfl
     have hN2:=hN.bool hbv s (.bool true)
     have hM2:=Qk.store1 (i:=s) (j:=0) (by rw[hsl];exact hsn) (by decide) true (.bool true) (fun k hk=>by
      have hk0:k=0:=Nat.lt_one_iff.1 hk
      subst hk0
      rfl)
     rw[Gz,show s*1+0=s by omega,←htk] at hM2
     have hB2:Below w.heap.size w (wr.setCell ⟨vb,s,none⟩ (.bool true)):=hB.setCell (by show w.heap.size≤vb;omega) _
     have Fb:=ah hN2;have Ii:=ah hM2;have HB2:=ah hB2;have Xr:=ah hk6
     have hki:(q:Int)<(m:Int):=by omega
     have hk0:(0:Int)≤(q:Int):=by omega
     have hsi:(s:Int)<(k:Int):=by omega
     have hs0:(0:Int)≤(s:Int):=by omega
     clear hN Qk hB hk6 htk hN2 hM2 hB2 g1 hbv
     go_wp2
     exact⟨⟨q+1,hqm,by push_cast;rfl,Fb.out,Ii.out,HB2.out,fun b hb=>(heap_setCell_other _ _ _ _ hb).trans (Xr.out b hb)⟩,by simp[intOf];omega⟩
    ·obtain rfl:q=m:=by omega
     rw[←HLEN.out,List.take_length,←HLQ.out] at Qk
     have Fb:=ah hN;have Ii:=ah Qk;have HB2:=ah hB
     clear hN Qk hB hk6
     go_wp2
     go_ret2
     have hnl:=HM.out.nl
     obtain⟨wd',lb',lo',nb',no',rb',ro',rc',hR⟩:=abb Fb.out HW.out (show sb<vb by omega) (by rw[hnl];exact Ii.out)
     refine⟨sb,vb,_,wd',lb',lo',nb',no',rb',ro',rc',rfl,by omega,Fb.out.box.lt,hR,⟨⟨Nat.le_refl _,fun _ _ _=>rfl⟩,none,0,0,0,0,(0,0),gZ.nil _ _,fun ad e=>(by cases e),?_,fun _=>⟨Nat.le_refl _,rfl,rfl,fun i h1 h2=>by omega⟩⟩,HB2.out⟩
     rw[hnl];exact Fb.out.box
end
section
open Go.RowKit
def JA:List UInt8:=[120,58,97,10,121,58,97,97,98]
def jg:aF:=vk JA 50
theorem YH:Nj JA 50=true:=by decide +kernel
theorem abf(D:aF)(en:Bool)(h:List UInt8):gq D en h=(en||(List.range h.length).any fun i=>!(decide (D.label.length≤bK D 0 (h.take (i+1)))||(wB D).contains (bK D 0 (h.take (i+1))))):=by
 have e:∀ s,gV D s=(decide (D.label.length≤s)||(wB D).contains s):=fun s=>by
  unfold gV oD
  rw[show(vJ (wB D)).contains s=(wB D).contains s by
   rw[Bool.eq_iff_iff,List.contains_iff_mem,List.contains_iff_mem,LZ]]
 unfold gq
 simp only[e]
theorem Ql:gq jg false [97]=false∧gq jg false [97,97]=false∧gq jg false [97,97,99]=true∧gq jg false [97,99]=true∧gq jg false [99]=true:=by
 simp only[abf]
 decide +kernel
theorem agS:dZ jg 0 [97,97,99]=some (1,1)∧dZ jg 0 [97,99]=some (1,1)∧dZ jg 0 [99]=none:=by decide +kernel
theorem adA:wY jg ⟨[],0,false,false⟩ [97]=([],⟨[97],0,false,false⟩):=by
 obtain⟨s1,_⟩:=Ql
 simp[wY,oG,jF,s1]
theorem adB:wY jg ⟨[97],0,false,false⟩ [97]=([],⟨[97,97],0,false,false⟩):=by
 obtain⟨_,s1,_⟩:=Ql
 simp[wY,oG,jF,s1]
theorem adC:wY jg ⟨[97,97],0,false,false⟩ [99]=([(1,0,1),(1,1,2)],⟨[],2,false,true⟩):=by
 obtain⟨_,_,s1,s2,s3⟩:=Ql
 obtain⟨b1,b2,b3⟩:=agS
 simp[wY,oG,jF,s1,s2,s3,b1,b2,b3]
theorem zQ.below{w u:World}(h:zQ w)(hb:Below w.heap.size w u):zQ u:=h.kept hb
theorem adD(w:World)(hT:Tab w)(hM:zQ w):Calls Tryz.prog 42 #[] w (bV w (.bool true)):=by
 have hmd:=YH
 unfold Nj at hmd
 simp only[Bool.and_eq_true,decide_eq_true_eq] at hmd
 obtain⟨m1,_,_,m4,_,_,m7,m8⟩:=hmd
 have hnm:∀ x∈jg.names,x.length≤9223372036854775807:=fun x hx=>by simpa using List.all_eq_true.1 m8 x hx
 obtain⟨w1,hc1,hs1,hb1,hz1⟩:=Tf JA w m4
 have hc1':(convert 35 35 (.slice (some ⟨w.heap.size,0,none⟩) 9 9)).run Tryz.prog (w.alloc (.cells #[.int .u8 120,.int .u8 58,.int .u8 97,.int .u8 10,.int .u8 121,.int .u8 58,.int .u8 97,.int .u8 97,.int .u8 98] 5))=.ok (.slice (some ⟨w.heap.size,0,none⟩) 9 9) w1:=hc1
 have H1:Hid (Calls Tryz.prog 56 #[.slice (some ⟨w.heap.size,0,none⟩) 9 9] w1 fun e w'=>Below w1.heap.size w1 w'∧∃ a c Rs,e=.returned (.tuple #[.slice a Rs.length c,.agg #[.int .i64 0,.int .i64 0]])∧xB w' a c Rs (kU JA)):=ah (ady m1 m4 (by unfold E8;first | exact trivial | decide) w1 w.heap.size (by omega) hs1 (hM.kept hb1))
 have HT:=ah (fun(u:World) (hu:Below w.heap.size w u)=>hT.kept hu)
 have HB1:=ah hb1
 have vV:=ah hnm;have HM7:=ah m7
 clear hc1 hs1 hb1 hT hM m1 m4 m7 m8 hnm hz1
 go_enter Tryz.func42,Tryz.ntmps42
 go_wp2_with (first | (go_at_call 56;go_must (refine H1.out.mono ?_;rintro e w2 ⟨hb2,a2,c2,Rs,rfl,hR⟩;have hB2:=HB1.out.trans (hb2.mono HB1.out.size);have hB3:=hB2.alloc hB2.size (.cells #[.int .i64 0,.int .i64 0] 88);have RZ:=hR.kept (aj w2 (.cells #[.int .i64 0,.int .i64 0] 88));have HR:=ah RZ;have HB3:=ah hB3;clear hR hB2 hb2 RZ hB3)) | (go_at_call 57;go_must (refine(agA YH _ _ _ Rs HR.out (HT.out _ HB3.out)).mono ?_;rintro e w4 ⟨hb4,V,rfl,hrd,hof⟩;have hB4:=HB3.out.trans (hb4.mono HB3.out.size))) | (simp only[iY];refine wpList_store_row rfl 27 (.tmp 3) (.tmp 19) rfl w4.heap.size _ rfl rfl _ _ (Box.new w4 Vz.cells 27) (bU _) (au.sizes _ _) (au.all _) ?_;rw[Cb rfl];have tH:=Box.new w4 V.cells 27;have hl5:=aj w4 (.cells V.cells 27);have dw:=hB4.trans (hl5.mono hB4.size);have SX:=ah (hrd _ hl5);have qR:=ah dw;clear hrd hof hB4 hl5 dw) | (refine dL (by rfl) 27 _ rfl w4.heap.size rfl _ _ _ _ tH Tryz.underlying27 rfl (bU _) ?_))
 refine(agF V jg _ SX.out vV.out HM7.out).mono ?_
 rintro e w7 ⟨sb,vb,U,wd,lb,lo,nb,no,rb,ro,rc,rfl,hsb,hlt,hMR,hSt,hb7⟩
 have sK:=qR.out.trans (hb7.mono qR.out.size)
 have agH:w.heap.size≤sb:=Nat.le_trans qR.out.size hsb
 have HFD:Hid (∀ (c:UInt8) (n:Int) (_:((c.toNat:Nat):Int)=n) (X Y:jH) (toks:List (Int×Nat×Nat)) (g:Option Nat) (u:World),wY jg X [c]=(toks,Y)→X.at_+(X.held.length+1)≤1099511627776→mG sb w7.heap.size vb jg.label.length U jg w7 u X g→(∀ k,g=some k→k<u.heap.size∧w.heap.size≤k)→Below w.heap.size w u →
   ∃ u1,(convert 35 35 (.slice (some ⟨u.heap.size,0,none⟩) 1 1)).run Tryz.prog (u.alloc (.cells #[.int .u8 n] 5))=.ok (.slice (some ⟨u.heap.size,0,none⟩) 1 1) u1 ∧
    Calls Tryz.prog 46 #[.pointer (some ⟨sb,0,none⟩),.slice (some ⟨u.heap.size,0,none⟩) 1 1] u1 fun e w'=>∃ a c g',e=.returned (.slice a toks.length c)∧Own w' u1.heap.size 61 3 AA (.slice a toks.length c) toks∧mG sb w7.heap.size vb jg.label.length U jg w7 w' Y g'∧(∀ k,g'=some k→k<w'.heap.size∧w.heap.size≤k)∧Below w.heap.size w w'):=ah fun c n hn X Y toks g u hf hlen hS hg hB=>by
  obtain⟨u1,k1,k2,k3,_⟩:=Tf [c] u (by simp)
  have hB1:=hB.trans (k3.mono hB.size)
  subst hn
  refine⟨u1,k1,(adz sb w7.heap.size vb U jg w7 u1 jg.label.length wd lb lo nb no rb ro rc hMR (OW HM7.out) hlt X g (hS.kept hlt k3) (fun k e=>Nat.lt_of_lt_of_le (hg k e).1 k3.size) _ 1 1 [c] k2 hlen).mono ?_⟩
  rw[hf]
  rintro e w' ⟨a,cc,g',rfl,ho,hk,hS',hg'⟩
  have hB':=hk.toBelow hB1 agH (fun k e=>(hg k e).2)
  exact⟨a,cc,g',rfl,ho,hS',fun k e=>⟨(hg' k e).2,(hg' k e).1.elim (fun h=>(hg k h).2) fun h=>Nat.le_trans hB1.size h⟩,hB'⟩
 obtain⟨u1,k1,hF1⟩:=HFD.out 97 97 rfl _ _ _ none w7 adA (by decide) hSt (fun k e=>by cases e) sK
 have Tc:=ah hF1
 clear hF1 hSt sK hMR hb7 tH SX qR H1 HR HB3 HT HB1
 go_wp2_with fail
 refine Tc.out.mono ?_
 rintro e w8 ⟨a8,c8,g8,rfl,_,hS8,yj,yw⟩
 obtain⟨u2,k2,hF2⟩:=HFD.out 97 97 rfl _ _ _ g8 w8 adB (by decide) hS8 yj yw
 have HF2:=ah hF2
 clear hF2 hS8 yj yw k1 Tc
 go_wp2_with fail
 refine HF2.out.mono ?_
 rintro e w9 ⟨a9,c9,g9,rfl,_,OA,Yv,mQ⟩
 obtain⟨u3,k3,hF3⟩:=HFD.out 99 99 rfl _ _ _ g9 w9 adC (by decide) OA Yv mQ
 have HF3:=ah hF3
 clear hF3 OA Yv mQ k2 HF2 HFD
 go_wp2_with fail
 refine HF3.out.mono ?_
 rintro e wa ⟨aa,ca,ga,rfl,hoa,hSa,hga,hBa⟩
 obtain⟨_,_,_,gt,cur,hgt,hgx⟩:=hoa.open
 obtain rfl:=hgt 0 (by decide)
 obtain⟨_,hgb,_,hgc⟩:=hgx (by decide)
 have p3:wa.cell? ⟨gt,3,none⟩=some (.int .i64 1):=(hgb.cell 3).trans (hgc 1 (by decide) 0 (by decide))
 have p4:wa.cell? ⟨gt,4,none⟩=some (.int .i64 1):=(hgb.cell 4).trans (hgc 1 (by decide) 1 (by decide))
 have p5:wa.cell? ⟨gt,5,none⟩=some (.int .i64 2):=(hgb.cell 5).trans (hgc 1 (by decide) 2 (by decide))
 have lt:=hgb.lt
 have HSK:=ah (fun(u:World) (hu:Below wa.heap.size wa u)=>aa8 sb _ vb _ U jg w7 u _ ga (hSa.kept hlt hu))
 have HSA:=ah (fun(u:World) (hu:Below wa.heap.size wa u)=>ahk sb _ vb _ U jg w7 u _ ga (hSa.kept hlt hu))
 clear hoa hgt hgx hgb hgc hSa hga k3 HF3
 go_wp2_with (first | (go_at_call 49;go_must (refine(HSK.out _ (Below.refl _ _)).mono ?_;rintro e wb ⟨rfl,hbb⟩)) | (go_at_call 48;go_must (refine(HSA.out _ hbb).mono ?_;rintro e wc ⟨rfl,hbc⟩)))
 go_ret
 exact⟨rfl,(hBa.trans (hbb.mono hBa.size)).trans (hbc.mono (Nat.le_trans hBa.size hbb.size))⟩
end
end Go.Proofs.YtbemonecmmnlcaaGreatDoor
