/- The texts of E34, in few letters (mini.py). -/
import Derived.Test.YtengfapcaaacaaaGreatDoorF33
set_option linter.unusedVariables false
set_option linter.unusedSimpArgs false
set_option maxRecDepth 20000
set_option maxHeartbeats 6400000
namespace Go.Proofs.YtengfapcaaacaaaGreatDoor
open Go.RowKit
def NV:List UInt8:=[97,58,120,42]
def NW:List UInt8:=[97,58,40,120,43,41,63]
def yJ:aQ:=rU NV 50
def yK:aQ:=rU NW 50
theorem Xx:G8 NV 50=true:=by decide +kernel
theorem Xy:G8 NW 50=true:=by decide +kernel
theorem plain30:EG yJ yK=true∧jh [97]=true∧yF yJ yK [97]=true:=by decide +kernel
theorem UE{T:List UInt8}{most:Nat}(h:G8 T most=true):(uq T).isRight=true∧T.length≤65536∧dM (rU T most)=true∧∀ x∈(rU T most).names,x.length≤9223372036854775807:=by
 unfold G8 at h
 simp only[Bool.and_eq_true,decide_eq_true_eq] at h
 obtain⟨m1,_,_,m4,_,_,m7,m8⟩:=h
 exact⟨m1,m4,m7,fun x hx=>by simpa using List.all_eq_true.1 m8 x hx⟩
theorem Xz(w:World)(hT:Tab w)(hM:Ei w):Calls Tryz.prog 11 #[] w (bF w (.bool true)):=by
 obtain⟨ma1,rG,ma3,ma4⟩:=UE Xx
 obtain⟨mb1,mb2,mb3,mb4⟩:=UE Xy
 obtain⟨p1,p2,p3⟩:=plain30
 have HTT:=ah (fun(u:World) (hu:Below w.heap.size w u)=>hT.kept hu)
 have PE:=ah (fun(u:World) (hu:Below w.heap.size w u)=>hM.kept hu)
 have HEQ:=ah (fun(u:World) (hu:Below w.heap.size w u) (V1 V2:aA) (h1:aZ u V1 yJ) (h2:aZ u V2 yK)=>JM V1 V2 yJ yK u h1 h2 ma4 mb4 (hT.kept hu))
 have Pz:=ah (fun(u:World) (hu:Below w.heap.size w u) (V1 V2:aA) (h1:aZ u V1 yJ) (h2:aZ u V2 yK)=>BH V1 V2 yJ yK [97] (by decide) u h1 h2 ma4 mb4 (hT.kept hu))
 have hb:both yJ yK=true:=by unfold both;rw[show dM yJ=true from ma3,show dM yK=true from mb3];rfl
 rw[hb,p1] at HEQ
 rw[hb,p2,p3] at Pz
 simp only[Bool.true_and,if_true] at HEQ Pz
 obtain⟨w1,hc1,hs1,hb1,hz1⟩:=Xv NV w rG
 have hc1':(convert 35 35 (.slice (some ⟨w.heap.size,0,none⟩) 4 4)).run Tryz.prog (w.alloc (.cells #[.int .u8 97,.int .u8 58,.int .u8 120,.int .u8 42] 5))=.ok (.slice (some ⟨w.heap.size,0,none⟩) 4 4) w1:=hc1
 have H1:=ah (Xw ma1 rG (by unfold FD;first | exact trivial | decide) w1 w.heap.size (by omega) hs1 (hM.kept hb1))
 have HB1:=ah hb1
 clear hc1 hs1 hb1 hT hM hz1 ma1 rG ma3 ma4 mb3 mb4 p1 p2 p3 hb
 go_enter Tryz.func11,Tryz.ntmps11
 go_wp2_with fail
 refine H1.out.mono ?_
 rintro e w2 ⟨hb2,a2,c2,Rs,rfl,hR⟩
 have hB2:=HB1.out.trans (hb2.mono HB1.out.size)
 have hB3:=hB2.alloc hB2.size (.cells #[.int .i64 0,.int .i64 0] 66)
 have hR3:=hR.kept (aj w2 (.cells #[.int .i64 0,.int .i64 0] 66))
 clear hB2 hb2 hR hc1'
 obtain⟨w4,hc4,hs4,hb4,wG⟩:=Xv NW (w2.alloc (.cells #[.int .i64 0,.int .i64 0] 66)) mb2
 have hB4:=hB3.trans (hb4.mono hB3.size)
 rw[World.size_alloc] at hc4 hs4 wG
 have apC:(convert 35 35 (.slice (some ⟨w2.heap.size+1,0,none⟩) 7 7)).run Tryz.prog ((w2.alloc (.cells #[.int .i64 0,.int .i64 0] 66)).alloc (.cells #[.int .u8 97,.int .u8 58,.int .u8 40,.int .u8 120,.int .u8 43,.int .u8 41,.int .u8 63] 5))=.ok (.slice (some ⟨w2.heap.size+1,0,none⟩) 7 7) w4:=hc4
 have H4:=ah (Xw mb1 mb2 (by unfold FD;first | exact trivial | decide) w4 (w2.heap.size+1) (by omega) hs4 (PE.out _ hB4))
 have hR4:=hR3.kept hb4
 have HR4:=ah hR4;have HB4:=ah hB4
 clear hc4 hs4 hb4 wG hB3 hR3 hR4 hB4
 go_wp2_with fail
 refine H4.out.mono ?_
 rintro e w5 ⟨hb5,a5,c5,Rs2,rfl,hR5⟩
 have bI:=HB4.out.trans (hb5.mono HB4.out.size)
 have fF:=bI.alloc bI.size (.cells #[.int .i64 0,.int .i64 0] 66)
 have hR6:=hR5.kept (aj w5 (.cells #[.int .i64 0,.int .i64 0] 66))
 have akO:=(HR4.out.kept hb5).kept (aj w5 (.cells #[.int .i64 0,.int .i64 0] 66))
 have HR6:=ah hR6;have akP:=ah akO;have vO:=ah fF
 clear bI hb5 hR5 apC hR6 akO fF HR4 HB4
 go_wp2_with fail
 refine(acj Xx _ _ _ Rs akP.out (HTT.out _ vO.out)).mono ?_
 rintro e w7 ⟨hb7,V1,rfl,akQ,apD⟩
 have iH:=vO.out.trans (hb7.mono vO.out.size)
 have hR7:=HR6.out.kept hb7
 have hx1:=Box.new w7 V1.cells 27
 have hl1:=aj w7 (.cells V1.cells 27)
 have jZ:=iH.trans (hl1.mono iH.size)
 have aeW:=ah (fun(v:World) (hv:Below (w7.alloc (.cells V1.cells 27)).heap.size (w7.alloc (.cells V1.cells 27)) v)=>akQ v (hl1.trans (hv.mono hl1.size)))
 have HR8:=ah (hR7.kept hl1);have Me:=ah jZ;have HX1:=ah hx1
 clear hb7 akQ apD iH hR7 hl1 jZ hx1 akP HR6 vO
 go_wp2_with (first | (simp only[fO];refine wpList_store_row rfl 27 (.tmp 5) (.tmp 28) rfl w7.heap.size _ rfl rfl _ _ (Box.new w7 Vz.cells 27) (ay _) (aA.sizes _ _) (aA.all _) ?_;rw[pO rfl]))
 refine(acj Xy _ _ _ Rs2 HR8.out (HTT.out _ Me.out)).mono ?_
 rintro e w9 ⟨mJ,V2,rfl,aeX,apE⟩
 have dw:=Me.out.trans (mJ.mono Me.out.size)
 have hx2:=Box.new w9 V2.cells 27
 have hl2:=aj w9 (.cells V2.cells 27)
 have hx1:=(HX1.out.kept mJ).alloc (.cells V2.cells 27)
 have hBa:=dw.trans (hl2.mono dw.size)
 have apF:=ah (HEQ.out _ hBa V1 V2 (aeW.out _ (mJ.trans (hl2.mono mJ.size))) (aeX _ hl2))
 have apG:=ah (fun v (hv:Below (w9.alloc (.cells V2.cells 27)).heap.size (w9.alloc (.cells V2.cells 27)) v)=>Pz.out v (hBa.trans (hv.mono hBa.size)) V1 V2 (aeW.out _ ((mJ.trans (hl2.mono mJ.size)).trans (hv.mono (Nat.le_trans mJ.size hl2.size)))) (aeX _ (hl2.trans (hv.mono hl2.size))))
 have Xr:=ah hBa
 clear mJ aeX apE dw hl2 hBa aeW HR8 Me HX1
 go_wp2_with (first | (simp only[fO];refine wpList_store_row rfl 27 (.tmp 7) (.tmp 33) rfl w9.heap.size _ rfl rfl _ _ (Box.new w9 Vz.cells 27) (ay _) (aA.sizes _ _) (aA.all _) ?_;rw[pO rfl]) | (refine ak (by rfl) 27 _ rfl w7.heap.size rfl _ _ _ _ hx1 Tryz.underlying27 rfl (ay _) ?_) | (refine ak (by rfl) 27 _ rfl w9.heap.size rfl _ _ _ _ hx2 Tryz.underlying27 rfl (ay _) ?_))
 refine apF.out.mono ?_
 rintro e wa ⟨rfl,hba⟩
 have apH:=hx1.kept hba
 have apI:=hx2.kept hba
 have hBb:=Xr.out.trans (hba.mono Xr.out.size)
 have apJ:=ah (apG.out _ hba)
 clear hx1 hx2 hba
 go_wp2_with (first | (refine ak (by rfl) 27 _ rfl w7.heap.size rfl _ _ _ _ apH Tryz.underlying27 rfl (ay _) ?_) | (refine ak (by rfl) 27 _ rfl w9.heap.size rfl _ _ _ _ apI Tryz.underlying27 rfl (ay _) ?_))
 refine apJ.out.mono ?_
 rintro e wb ⟨rfl,hbb⟩
 go_wp2
 go_ret
 exact⟨rfl,hBb.trans (hbb.mono hBb.size)⟩
end Go.Proofs.YtengfapcaaacaaaGreatDoor
