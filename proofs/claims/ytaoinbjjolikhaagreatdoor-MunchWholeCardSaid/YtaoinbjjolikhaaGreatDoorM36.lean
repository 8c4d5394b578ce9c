/- The texts of B36, in few letters (mini.py). -/
import Derived.Test.YtaoinbjjolikhaaGreatDoorM35
import Derived.Lib.SlBytesConst
set_option linter.unusedVariables false
set_option linter.unusedSimpArgs false
set_option maxRecDepth 20000
set_option maxHeartbeats 3200000
namespace Go.Proofs.YtaoinbjjolikhaaGreatDoor
open Go.RowKit
theorem ak.UQ{w:World}{v:Value}{l:List Nat}(h:ak w v 1 gB l)(hb:∀ x∈l,x<256):ak w v 1 bQ (l.map UInt8.ofNat):=by
 obtain⟨a,b,o,cap,rfl,hl,hc,ha,hx⟩:=h
 refine⟨a,b,o,cap,by rw[List.length_map],by rw[List.length_map];exact hl,hc,ha.imp id (fun⟨h1,h2⟩=>⟨by rw[h1];rfl,h2⟩),fun i hi j u hu=>?_⟩
 rw[List.length_map] at hi
 rw[List.getElem_map] at hu
 have h1:(UInt8.ofNat l[i]).toNat=l[i]:=UInt8.toNat_ofNat_of_lt' (hb _ (List.getElem_mem hi))
 exact hx i hi j u (by simpa [bQ,gB,h1] using hu)
theorem Xg(w:World)(E:Nat)(xs:List UInt8)(fr:Nat×Nat)(hm:xs.length≤maxLen):ak (w.alloc (.cells (xs.flatMap bQ).toArray E fr)) (.slice (some ⟨w.heap.size,0,none⟩) xs.length xs.length) 1 bQ xs:=by
 refine⟨_,w.heap.size,0,xs.length,rfl,Nat.le_refl _,by simpa [maxLen] using hm,.inl rfl,fun i hi j u hu=>?_⟩
 rw[World.cell?_alloc_mark]
 have hj:j=0:=by
  cases j with
  | zero=>rfl
  | succ j=>simp[bQ] at hu
 subst hj
 have h2:=tJ (enc:=bQ) (fun _=>rfl) xs i 0 hi (by decide)
 rw[List.getElem?_toArray,show 0+i*1+0=i*1+0 by omega,h2]
 exact hu
def xU(w:World):Prop:=∃ m,w.cell? ⟨0,0,none⟩=some (.int .i64 m)
theorem xU.kept{w w':World}(h:xU w)(hb:Below w.heap.size w w'):xU w':=by
 obtain⟨m,hm⟩:=h
 exact⟨m,(hb.cell (World.block_lt_of_cell? w _ hm)).trans hm⟩
theorem OO(w:World)(hT:Tab w)(hM:xU w):Calls Tryz.prog 10 #[] w (aX w (.bool true)):=by
 have H1:=ah (fun(u:World) (hu:Below w.heap.size w u) (g:Nat) (hg:g<u.heap.size) (hs:ak u (.slice (some ⟨g,0,none⟩) 24 24) 1 bQ kG)=>ajC▸aaT (g,0) 24 24 kG u hs hg (by
  obtain⟨k,hk⟩:=hM
  exact⟨k,(hu.cell (World.block_lt_of_cell? w _ hk)).trans hk⟩) (by have:=hu.size;omega) (by decide))
 have H2:=ah (fun(Rs:List (List UInt8×Vt)) (a:Option Addr) (cap:Nat) (u:World) (hR:(Rs.map fun x=>(x.1,x.2.tr))=sW) (hO:ak u (.slice a Rs.length cap) 9 jf Rs) (hL:∀ i (h:i<Rs.length),Lies u Rs[i].2) (hu:Below w.heap.size w u)=>(show Calls Tryz.prog 36 #[.slice a Rs.length cap,.int .i64 50] u (yR u (.inr Ci)) by
  have h1:=abK Rs a Rs.length cap 50 u hO hL (fun x hx=>aen (x.1,x.2.tr) (by rw[←hR];exact List.mem_map.2 ⟨x,hx,rfl⟩)) (hT.kept hu) (by decide) (by decide)
  rw[show Rs.map zB=sW from hR,ajD] at h1
  exact h1))
 have H3:=ah (fun(V:aG) (g:Nat) (u:World) (h:dS u V Ci) (hs:ak u (.slice (some ⟨g,0,none⟩) 8 8) 1 bQ kH)=>(show Calls Tryz.prog 11 #[.agg V.cells,.slice (some ⟨g,0,none⟩) 8 8] u (xR u [(2,0,4),(3,4,5),(1,5,7)] 7 0) by
  have h1:=Hy V Ci kH (some ⟨g,0,none⟩) 8 8 u h agF agE hs (by decide)
  rw[ajE] at h1
  exact h1))
 have hc1:=Go.Lib.run_convert_bytes_const (P:=Tryz.prog) w 28 5 (kG.flatMap bQ).toArray 24 24 Tryz.underlying28 Tryz.underlying5
 have hs1:=Xg w 5 kG ((kG.flatMap bQ).toArray.size,(kG.flatMap bQ).toArray.size+1) (by simp[maxLen,kG])
 have hb1:=aj w (.cells (kG.flatMap bQ).toArray 5 ((kG.flatMap bQ).toArray.size,(kG.flatMap bQ).toArray.size+1))
 have HS2:=ah (fun(u:World)=>(⟨Go.Lib.run_convert_bytes_const (P:=Tryz.prog) u 28 5 (kH.flatMap bQ).toArray 8 8 Tryz.underlying28 Tryz.underlying5,Xg u 5 kH ((kH.flatMap bQ).toArray.size,(kH.flatMap bQ).toArray.size+1) (by simp[maxLen,kH]),aj u _⟩:_∧ak _ _ 1 bQ kH∧Below u.heap.size u (u.alloc (.cells (kH.flatMap bQ).toArray 5 ((kH.flatMap bQ).toArray.size,(kH.flatMap bQ).toArray.size+1)))))
 obtain⟨w1,hw1⟩:∃ w1,w.alloc (.cells (kG.flatMap bQ).toArray 5 ((kG.flatMap bQ).toArray.size,(kG.flatMap bQ).toArray.size+1))=w1:=⟨_,rfl⟩
 have hsz1:w1.heap.size=w.heap.size+1:=by rw[←hw1,World.size_alloc]
 rw[hw1] at hc1 hs1 hb1
 have hc1':(convert 28 28 (.slice (some ⟨w.heap.size,0,none⟩) 24 24)).run Tryz.prog (w.alloc (.cells #[.int .u8 105,.int .u8 102,.int .u8 58,.int .u8 105,.int .u8 102,.int .u8 10,.int .u8 105,.int .u8 100,.int .u8 58,.int .u8 91,.int .u8 97,.int .u8 45,.int .u8 122,.int .u8 93,.int .u8 43,.int .u8 10,.int .u8 119,.int .u8 115,.int .u8 58,.int .u8 92,.int .u8 120,.int .u8 50,.int .u8 48,.int .u8 43] 5))=.ok (.slice (some ⟨w.heap.size,0,none⟩) 24 24) w1:=hc1
 clear hw1 hc1
 clear hT hM
 go_enter Tryz.func10,Tryz.ntmps10
 go_wp2_with (first | (go_at_call 35;go_must (refine(H1.out _ hb1 _ (by omega) hs1).mono ?_;rintro e w2 ⟨hb2,a2,c2,Rs,he,hR,hO,hL⟩;unfold eH at he;subst he;have hB2:=hb1.trans (hb2.mono hb1.size);have HB2:=ah (hB2.alloc hB2.size (.cells #[.int .i64 0,.int .i64 0] 69));have HR:=ah hR;have HO:=ah ((hO.kept (aj w2 (.cells #[.int .i64 0,.int .i64 0] 69))).slice AP);have HL:=ah (fun i (h:i<Rs.length)=>(hL i h).1.kept (aj w2 (.cells #[.int .i64 0,.int .i64 0] 69)));clear hR hO hL hB2)) | (go_at_call 36;go_must (refine(H2.out Rs _ _ _ HR.out HO.out HL.out HB2.out).mono ?_;rintro e w4 ⟨hb4,V,he,hrd,hof⟩;subst he;have hB4:=HB2.out.trans (hb4.mono HB2.out.size))) | (simp only[jM];refine wpList_store_row rfl 27 (.tmp 3) (.tmp 17) rfl w4.heap.size _ rfl rfl _ _ (Box.new w4 Vz.cells 27) (aQ _) (aG.sizes _ _) (aG.all _) ?_;rw[ES rfl];have wJ:=Box.new w4 V.cells 27;have hl5:=aj w4 (.cells V.cells 27);have bF:=hB4.trans (hl5.mono hB4.size);have aeo:=hrd _ (fun b _ h2=>hl5.block b h2);obtain⟨w5,hw5⟩:∃ w5,w4.alloc (.cells V.cells 27)=w5:=⟨_,rfl⟩;rw[hw5] at wJ bF aeo ⊢;have hc2:(convert 28 28 (.slice (some ⟨w5.heap.size,0,none⟩) 8 8)).run Tryz.prog (w5.alloc (.cells #[.int .u8 105,.int .u8 102,.int .u8 102,.int .u8 121,.int .u8 32,.int .u8 105,.int .u8 102,.int .u8 43] 5))=.ok (.slice (some ⟨w5.heap.size,0,none⟩) 8 8) (w5.alloc (.cells (kH.flatMap bQ).toArray 5 (8,9))):=(HS2.out w5).1;have hs6:=(HS2.out w5).2.1;have hb6:=(HS2.out w5).2.2;obtain⟨w6,hw6⟩:∃ w6,w5.alloc (.cells (kH.flatMap bQ).toArray 5 (8,9))=w6:=⟨_,rfl⟩;change ak (w5.alloc (.cells (kH.flatMap bQ).toArray 5 (8,9))) (.slice (some ⟨w5.heap.size,0,none⟩) 8 8) 1 bQ kH at hs6;change Below w5.heap.size w5 (w5.alloc (.cells (kH.flatMap bQ).toArray 5 (8,9))) at hb6;rw[hw6] at hs6 hb6 hc2;have ajF:=aeo.kept hb6;have ny:=bF.trans (hb6.mono bF.size);have zx:=ah ajF;have HS6:=ah hs6;clear hrd aeo ajF hs6 hw6 hw5 hl5 hof HS2 H1 H2) | (refine aC (by rfl) 27 _ rfl w4.heap.size rfl _ _ _ _ wJ Tryz.underlying27 rfl (aQ _) ?_) | (go_at_call 11;go_must (refine(H3.out V _ _ zx.out HS6.out).mono ?_;rintro e w7 ⟨a7,c7,rfl,iF,hb7⟩;have pK:=ny.trans (hb7.mono ny.size);obtain⟨_,_,_,g7,aqA,ajG,ajH⟩:=iF.open;obtain rfl:=ajG 0 (by decide);obtain⟨_,cZ,_,F8⟩:=ajH (by decide);have p0:w7.cell? ⟨g7,0,none⟩=some (.int .i64 2):=(cZ.cell 0).trans (F8 0 (by decide) 0 (by decide));have p1:w7.cell? ⟨g7,1,none⟩=some (.int .i64 0):=(cZ.cell 1).trans (F8 0 (by decide) 1 (by decide));have p2:w7.cell? ⟨g7,2,none⟩=some (.int .i64 4):=(cZ.cell 2).trans (F8 0 (by decide) 2 (by decide));have p6:w7.cell? ⟨g7,6,none⟩=some (.int .i64 1):=(cZ.cell 6).trans (F8 2 (by decide) 0 (by decide));have p7:w7.cell? ⟨g7,7,none⟩=some (.int .i64 5):=(cZ.cell 7).trans (F8 2 (by decide) 1 (by decide));have p8:w7.cell? ⟨g7,8,none⟩=some (.int .i64 7):=(cZ.cell 8).trans (F8 2 (by decide) 2 (by decide));have l7:=cZ.lt;clear ajG ajH F8)))
 go_ret
 exact⟨rfl,pK⟩
end Go.Proofs.YtaoinbjjolikhaaGreatDoor
