/- The texts of T35, in few letters (mini.py). -/
import Derived.Test.YtbemonecmmnlcaaGreatDoorU34
set_option linter.unusedVariables false
set_option linter.unusedSimpArgs false
set_option maxRecDepth 20000
set_option maxHeartbeats 3200000
namespace Go.Proofs.YtbemonecmmnlcaaGreatDoor
section
open Go.RowKit
def NG:List UInt8:=[120,58,97,10,121,58,97,97,98]
def jL:ay:=x9 NG 50
theorem acg:QF NG 50=true:=by decide +kernel
theorem ae2(D:ay)(en:Bool)(h:List UInt8):dZ D en h=(en||(List.range h.length).any fun i=>!(decide (D.label.length≤bD D 0 (h.take (i+1)))||(yX D).contains (bD D 0 (h.take (i+1))))):=by
 have e:∀ s,fP D s=(decide (D.label.length≤s)||(yX D).contains s):=fun s=>by
  unfold fP qP
  rw[show(yw (yX D)).contains s=(yX D).contains s by
   rw[Bool.eq_iff_iff,List.contains_iff_mem,List.contains_iff_mem,PY]]
 unfold dZ
 simp only[e]
theorem UG:dZ jL false [97]=false∧dZ jL false [97,97]=false∧dZ jL false [97,97,99]=true∧dZ jL false [97,99]=true∧dZ jL false [99]=true:=by
 simp only[ae2]
 decide +kernel
theorem akD:dP jL 0 [97,97,99]=some (1,1)∧dP jL 0 [97,99]=some (1,1)∧dP jL 0 [99]=none:=by decide +kernel
theorem ahc:ji jL ⟨[],0,false,false⟩ [97]=([],⟨[97],0,false,false⟩):=by
 obtain⟨s1,_⟩:=UG
 simp[ji,mF,kQ,s1]
theorem ahd:ji jL ⟨[97],0,false,false⟩ [97]=([],⟨[97,97],0,false,false⟩):=by
 obtain⟨_,s1,_⟩:=UG
 simp[ji,mF,kQ,s1]
theorem ahe:ji jL ⟨[97,97],0,false,false⟩ [99]=([(1,0,1),(1,1,2)],⟨[],2,false,true⟩):=by
 obtain⟨_,_,s1,s2,s3⟩:=UG
 obtain⟨b1,b2,b3⟩:=akD
 simp[ji,mF,kQ,s1,s2,s3,b1,b2,b3]
theorem xK.below{w u:World}(h:xK w)(hb:Below w.heap.size w u):xK u:=h.kept hb
theorem Ot(w:World)(hT:Tab w)(hM:xK w):Calls Tryz.prog 42 #[] w (bM w (.bool true)):=by
 have hmd:=acg
 unfold QF at hmd
 simp only[Bool.and_eq_true,decide_eq_true_eq] at hmd
 obtain⟨m1,_,_,m4,_,_,m7,m8⟩:=hmd
 have hnm:∀ x∈jL.names,x.length≤9223372036854775807:=fun x hx=>by simpa using List.all_eq_true.1 m8 x hx
 obtain⟨w1,hc1,hs1,hb1,hz1⟩:=Xj NG w m4
 have hc1':(convert 35 35 (.slice (some ⟨w.heap.size,0,none⟩) 9 9)).run Tryz.prog (w.alloc (.cells #[.int .u8 120,.int .u8 58,.int .u8 97,.int .u8 10,.int .u8 121,.int .u8 58,.int .u8 97,.int .u8 97,.int .u8 98] 5))=.ok (.slice (some ⟨w.heap.size,0,none⟩) 9 9) w1:=hc1
 have H1:Hid (Calls Tryz.prog 56 #[.slice (some ⟨w.heap.size,0,none⟩) 9 9] w1 fun e w'=>Below w1.heap.size w1 w'∧∃ a c Rs,e=.returned (.tuple #[.slice a Rs.length c,.agg #[.int .i64 0,.int .i64 0]])∧zV w' a c Rs (mY NG)):=ah (ag7 m1 m4 (by unfold II;first | exact trivial | decide) w1 w.heap.size (by omega) hs1 (hM.kept hb1))
 have HT:=ah (fun(u:World) (hu:Below w.heap.size w u)=>hT.kept hu)
 have HB1:=ah hb1
 have ug:=ah hnm;have HM7:=ah m7
 clear hc1 hs1 hb1 hT hM m1 m4 m7 m8 hnm hz1
 go_enter Tryz.func42,Tryz.ntmps42
 go_wp2_with (first | (go_at_call 56;go_must (refine H1.out.mono ?_;rintro e w2 ⟨hb2,a2,c2,Rs,rfl,hR⟩;have hB2:=HB1.out.trans (hb2.mono HB1.out.size);have hB3:=hB2.alloc hB2.size (.cells #[.int .i64 0,.int .i64 0] 88);have WC:=hR.kept (aj w2 (.cells #[.int .i64 0,.int .i64 0] 88));have HR:=ah WC;have HB3:=ah hB3;clear hR hB2 hb2 WC hB3)) | (go_at_call 57;go_must (refine(akd acg _ _ _ Rs HR.out (HT.out _ HB3.out)).mono ?_;rintro e w4 ⟨hb4,V,rfl,hrd,hof⟩;have hB4:=HB3.out.trans (hb4.mono HB3.out.size))) | (simp only[jG];refine wpList_store_row rfl 27 (.tmp 3) (.tmp 19) rfl w4.heap.size _ rfl rfl _ _ (Box.new w4 Vz.cells 27) (aZ _) (au.sizes _ _) (au.all _) ?_;rw[EH rfl];have kJ:=Box.new w4 V.cells 27;have hl5:=aj w4 (.cells V.cells 27);have dG:=hB4.trans (hl5.mono hB4.size);have sD:=ah (hrd _ hl5);have nG:=ah dG;clear hrd hof hB4 hl5 dG) | (refine aI (by rfl) 27 _ rfl w4.heap.size rfl _ _ _ _ kJ Tryz.underlying27 rfl (aZ _) ?_))
 refine(UE V jL _ sD.out ug.out HM7.out).mono ?_
 rintro e w7 ⟨sb,vb,U,wd,lb,lo,nb,no,rb,ro,rc,rfl,hsb,hlt,hMR,hSt,hb7⟩
 have kM:=nG.out.trans (hb7.mono nG.out.size)
 have aks:w.heap.size≤sb:=Nat.le_trans nG.out.size hsb
 have UH:Hid (∀ (c:UInt8) (n:Int) (_:((c.toNat:Nat):Int)=n) (X Y:eG) (toks:List (Int×Nat×Nat)) (g:Option Nat) (u:World),ji jL X [c]=(toks,Y)→X.at_+(X.held.length+1)≤1099511627776→jd sb w7.heap.size vb jL.label.length U jL w7 u X g→(∀ k,g=some k→k<u.heap.size∧w.heap.size≤k)→Below w.heap.size w u →
   ∃ u1,(convert 35 35 (.slice (some ⟨u.heap.size,0,none⟩) 1 1)).run Tryz.prog (u.alloc (.cells #[.int .u8 n] 5))=.ok (.slice (some ⟨u.heap.size,0,none⟩) 1 1) u1 ∧
    Calls Tryz.prog 46 #[.pointer (some ⟨sb,0,none⟩),.slice (some ⟨u.heap.size,0,none⟩) 1 1] u1 fun e w'=>∃ a c g',e=.returned (.slice a toks.length c)∧Own w' u1.heap.size 61 3 gK (.slice a toks.length c) toks∧jd sb w7.heap.size vb jL.label.length U jL w7 w' Y g'∧(∀ k,g'=some k→k<w'.heap.size∧w.heap.size≤k)∧Below w.heap.size w w'):=ah fun c n hn X Y toks g u hf hlen hS hg hB=>by
  obtain⟨u1,k1,k2,k3,_⟩:=Xj [c] u (by simp)
  have hB1:=hB.trans (k3.mono hB.size)
  subst hn
  refine⟨u1,k1,(Xl sb w7.heap.size vb U jL w7 u1 jL.label.length wd lb lo nb no rb ro rc hMR (yM HM7.out) hlt X g (hS.kept hlt k3) (fun k e=>Nat.lt_of_lt_of_le (hg k e).1 k3.size) _ 1 1 [c] k2 hlen).mono ?_⟩
  rw[hf]
  rintro e w' ⟨a,cc,g',rfl,ho,hk,hS',hg'⟩
  have hB':=hk.toBelow hB1 aks (fun k e=>(hg k e).2)
  exact⟨a,cc,g',rfl,ho,hS',fun k e=>⟨(hg' k e).2,(hg' k e).1.elim (fun h=>(hg k h).2) fun h=>Nat.le_trans hB1.size h⟩,hB'⟩
 obtain⟨u1,k1,hF1⟩:=UH.out 97 97 rfl _ _ _ none w7 ahc (by decide) hSt (fun k e=>by cases e) kM
 have Xg:=ah hF1
 clear hF1 hSt kM hMR hb7 kJ sD nG H1 HR HB3 HT HB1
 go_wp2_with fail
 refine Xg.out.mono ?_
 rintro e w8 ⟨a8,c8,g8,rfl,_,hS8,uM,uX⟩
 obtain⟨u2,k2,hF2⟩:=UH.out 97 97 rfl _ _ _ g8 w8 ahd (by decide) hS8 uM uX
 have HF2:=ah hF2
 clear hF2 hS8 uM uX k1 Xg
 go_wp2_with fail
 refine HF2.out.mono ?_
 rintro e w9 ⟨a9,c9,g9,rfl,_,RZ,hg9,jE⟩
 obtain⟨u3,k3,hF3⟩:=UH.out 99 99 rfl _ _ _ g9 w9 ahe (by decide) RZ hg9 jE
 have HF3:=ah hF3
 clear hF3 RZ hg9 jE k2 HF2 UH
 go_wp2_with fail
 refine HF3.out.mono ?_
 rintro e wa ⟨aa,ca,ga,rfl,hoa,hSa,hga,hBa⟩
 obtain⟨_,_,_,gt,cur,hgt,hgx⟩:=hoa.open
 obtain rfl:=hgt 0 (by decide)
 obtain⟨_,hgb,_,hgc⟩:=hgx (by decide)
 have p3:wa.cell? ⟨gt,3,none⟩=some (.int .i64 1):=(hgb.cell 3).trans (hgc 1 (by decide) 0 (by decide))
 have p4:wa.cell? ⟨gt,4,none⟩=some (.int .i64 1):=(hgb.cell 4).trans (hgc 1 (by decide) 1 (by decide))
 have p5:wa.cell? ⟨gt,5,none⟩=some (.int .i64 2):=(hgb.cell 5).trans (hgc 1 (by decide) 2 (by decide))
 have lt:=hgb.lt
 have TF:=ah (fun(u:World) (hu:Below wa.heap.size wa u)=>UC sb _ vb _ U jL w7 u _ ga (hSa.kept hlt hu))
 have HSA:=ah (fun(u:World) (hu:Below wa.heap.size wa u)=>agh sb _ vb _ U jL w7 u _ ga (hSa.kept hlt hu))
 clear hoa hgt hgx hgb hgc hSa hga k3 HF3
 go_wp2_with (first | (go_at_call 49;go_must (refine(TF.out _ (Below.refl _ _)).mono ?_;rintro e wb ⟨rfl,hbb⟩)) | (go_at_call 48;go_must (refine(HSA.out _ hbb).mono ?_;rintro e wc ⟨rfl,hbc⟩)))
 go_ret
 exact⟨rfl,(hBa.trans (hbb.mono hBa.size)).trans (hbc.mono (Nat.le_trans hBa.size hbb.size))⟩
end
section
open Go.ChangeShapes Go.WideShapes Go.ChangeAt Go.RowKit Go.Deep
def sG(w:World)(a:Option Addr)(n c:Nat)(L:List (List UInt8)):Prop :=
 ∃ rows:List Dv,n=L.length∧rows.length=L.length∧ak w (.slice a n c) 1 tC rows∧∀ i (h1:i<rows.length) (h2:i<L.length),∃ a' c',rows[i]=(a',L[i].length,c')∧ak w (.slice a' L[i].length c') 1 bf L[i]
theorem sG.kept{w w':World}{a:Option Addr}{n c:Nat}{L:List (List UInt8)}(h:sG w a n c L)(hb:Below w.heap.size w w'):sG w' a n c L:=by
 obtain⟨rows,h1,h2,h3,h4⟩:=h
 exact⟨rows,h1,h2,h3.kept hb,fun i p q=>by obtain⟨a',c',e,hs⟩:=h4 i p q;exact⟨a',c',e,hs.kept hb⟩⟩
section
variable {H:Type} {enc:TypeId×Value→H} {P:Program} {w:World} {base:Nat} {spare:Nat→Bool} {held:Bool}
theorem weightsAll_mem{e:TypeId}{R:Nat}:∀ (l:List (DataW H)) (d:DataW H),(DataW.weightsAll P e l).all (·≤R)=true→d∈l→(DataW.weights P e d).all (·≤R)=true
 | [],_,_,h=>by cases h
 | x::r,d,hw,h=>by
  rw[DataW.weightsAll,List.all_append,Bool.and_eq_true] at hw
  rcases List.mem_cons.1 h with rfl | h
  ·exact hw.1
  ·exact weightsAll_mem r d hw.2 h
theorem VK{tL tB tU:TypeId}{R:Nat}(hL:P.underlying tL=some (.slice tB))(hB:P.underlying tB=some (.slice tU))(hU:P.underlying tU=some (.int .u8))(cB:P.cellsOf tB=1)(cU:P.cellsOf tU=1)(bU:P.bytesOf tU=1){fuel:Nat}{a:Option Addr}{len cap:Nat}{x:DataW H×List MemPlace}
  (h:DataW.trod enc P w base spare held fuel tL [.slice a len cap]=some x) (hw:(DataW.weights P tL x.1).all (·≤R)=true):∃ L:List (List UInt8),sG w a len cap L∧∀ y∈L,y.length≤R:=by
 rcases DataW.trod_slice hL h with⟨h0,_⟩ | ⟨a',len',cap',elems,rest,n,hf,h0,hx,_,hle,hm,anp,hel,_⟩
 ·simp at h0
  obtain⟨rfl,rfl,rfl⟩:=h0
  exact⟨[],⟨[],rfl,rfl,⟨none,0,0,0,rfl,Nat.le_refl _,by simp[maxLen],.inr ⟨rfl,fun _=>rfl⟩,fun i hi=>by simp at hi⟩,fun i hi=>by simp at hi⟩,fun y hy=>by cases hy⟩
 ·simp at h0
  obtain⟨rfl,rfl,rfl⟩:=h0
  rw[hx] at hw
  simp only[DataW.weights,hL,List.all_cons,List.all_append,Bool.and_eq_true] at hw
  have key:∀ i,i<len→∃ y:Dv×List UInt8,w.cell? (a'.add i)=some (.slice y.1.1 y.1.2.1 y.1.2.2)∧y.1.2.1=y.2.length∧ak w (.slice y.1.1 y.2.length y.1.2.2) 1 bf y.2∧y.2.length≤R:=fun i hi=>by
   have h1:=hel i hi
   rw[cB,Nat.mul_one,List.getElem?_eq_getElem (show i<elems.length by omega)] at h1
   obtain⟨cs',h2,h3⟩:=Option.bind_eq_some_iff.1 h1
   obtain⟨h5,_,h4⟩:=World.cells?_some h2
   match cs',h5,h3,h4 with
   | [c],_,h3,h4 =>
    have hc:∃ a1 n1 c1,c=.slice a1 n1 c1:=by
     rcases DataW.trod_slice hB h3 with⟨e,_⟩ | ⟨a1,n1,c1,_,_,_,_,e,_⟩
     ·simp at e;exact⟨_,_,_,e⟩
     ·simp at e;exact⟨_,_,_,e⟩
    obtain⟨a1,n1,c1,rfl⟩:=hc
    have hw1:=weightsAll_mem _ _ hw.2.1 (List.mem_map.2 ⟨elems[i],List.getElem_mem _,rfl⟩)
    have h6:=Vp hB h3 hw1
    rw[bU,Nat.mul_one] at h6
    obtain⟨l,hl,hs,hb⟩:=XC hB hU cU h3
    have hs2:=hs.akc hb
    refine⟨((a1,n1,c1),l.map UInt8.ofNat),?_,by simp[hl],by rw[List.length_map];exact hs2,by rw[List.length_map];omega⟩
    have:=h4 0 (by simp)
    simpa [Addr.add] using this
  obtain⟨g,hg⟩:=Ej key
  have hspot:0<len→a'.spot=none:=fun h0=>by
   have:=World.cell?_spot (hg 0 h0).1
   simpa [Addr.add] using this
  obtain⟨b,o,spot⟩:=a'
  refine⟨(List.range len).map fun i=>(g i).2,⟨(List.range len).map fun i=>(g i).1,by simp,by simp,⟨some ⟨b,o,spot⟩,b,o,cap,by simp,by simpa using hle,hm,?_,fun i hi j u hu=>?_⟩,fun i h1 h2=>?_⟩,fun y hy=>?_⟩
  ·by_cases h0:len=0
   ·exact .inr ⟨by simp[h0],fun h=>by cases h⟩
   ·have h1:=hspot (by omega)
    simp only at h1
    exact .inl (by rw[h1])
  ·have hi':i<len:=by simpa using hi
   have h1:=(hg i hi').1
   have hs2:spot=none:=hspot (by omega)
   subst hs2
   cases j with
   | succ j=>simp[tC] at hu
   | zero =>
    simp[tC] at hu
    subst hu
    rw[Addr.add_mid] at h1
    simpa using h1
  ·have hi':i<len:=by simpa using h1
   obtain⟨_,e2,e3,_⟩:=hg i hi'
   refine⟨(g i).1.1,(g i).1.2.2,?_,by simpa using e3⟩
   simp only[List.getElem_map,List.getElem_range]
   rw[←e2]
  ·obtain⟨i,hi,rfl⟩:=List.mem_map.1 hy
   exact(hg i (List.mem_range.1 hi)).2.2.2
end
end
section
open Go.RowKit
def total(L:List (List UInt8)):Nat:=(L.map List.length).sum
def zM(most:Nat):List (List UInt8)→Nat→Nat
 | [],n=>n
 | x::r,n=>if n≤most then zM most r (n+x.length) else n
theorem UJ(most:Nat):∀ (L:List (List UInt8)) (n:Nat),most<zM most L n↔most<n+total L
 | [],n=>by simp[zM,total]
 | x::r,n=>by
  have e:total (x::r)=x.length+total r:=by simp[total]
  rw[zM,e]
  by_cases h:n≤most
  ·rw[if_pos h,UJ most r,Nat.add_assoc]
  ·rw[if_neg h];omega
theorem sG.at_{w:World}{a:Option Addr}{n c:Nat}{L:List (List UInt8)}(h:sG w a n c L):n=L.length∧n≤c∧c≤9223372036854775807∧∃ b o,(∀ i,i<n→a=some ⟨b,o,none⟩)∧∀ i (hi:i<L.length),∃ a' c',(∀ u,Below w.heap.size w u→u.cell? ⟨b,o+i,none⟩=some (.slice a' (L[i]).length c'))∧ak w (.slice a' (L[i]).length c') 1 bf L[i]:=by
 obtain⟨rows,h1,h2,h3,h4⟩:=h
 obtain⟨b,o,e1,e2,e3,ha,hx⟩:=h3.bY (f:=fun x:Dv=>Value.slice x.1 x.2.1 x.2.2)
 refine⟨h1,by omega,e3,b,o,fun i hi=>ha i (by omega),fun i hi=>?_⟩
 have hi2:i<rows.length:=by omega
 obtain⟨a',c',hr,hs⟩:=h4 i hi2 hi
 refine⟨a',c',fun u hu=>?_,hs⟩
 rw[hx i hi2 u hu,hr]
theorem Xo(a:Option Addr)(n c:Nat)(L:List (List UInt8))(most:Nat)(w:World)(h:sG w a n c L)(hq:∀ x∈L,x.length≤140737488351232)(hm:most≤1048576) :
  Calls Tryz.prog 41 #[.slice a n c,.int .i64 most] w fun e w'=>∃ s:Nat,e=.returned (.int .i64 s)∧Below w.heap.size w w'∧(most<s↔most<total L):=by
 obtain⟨hn,hnc,hc,b,o,ha,hx⟩:=h.at_
 have HS:=ah (show most<zM most L 0↔most<total L by rw[UJ,Nat.zero_add])
 obtain⟨S,hS⟩:∃ S,zM most L 0=S:=⟨_,rfl⟩
 rw[hS] at HS
 have Xk:=ah hS
 have HN:=ah hn;have HA:=ah ha;have HX:=ah hx;have HQ:=ah hq
 have hn63:n≤9223372036854775807:=by omega
 clear h hn ha hx hq hS
 go_enter Tryz.func41,Tryz.ntmps41
 go_wp2_with fail
 go_loopw [5,6] (fun v5 v6 wr=>∃ k s:Nat,k≤n∧v5=.int .i64 s∧v6=.int .i64 k∧Below w.heap.size w wr∧zM most (L.drop k) s=S∧s≤140737489399808) (fun _ v6 _=>n - (intOf v6).toNat)
 case atStart=>exact⟨0,0,Nat.zero_le _,rfl,rfl,Below.refl _ _,by rw[List.drop_zero];exact Xk.out,by omega⟩
 case round =>
  obtain⟨k,s,hk,rfl,rfl,hB,hl,hs⟩:=hrel
  by_cases hlt:k<n
  ·have hki:(k:Int)<(n:Int):=by omega
   have hk0:(0:Int)≤(k:Int):=by omega
   have hkl:k<L.length:=by rw[←HN.out];exact hlt
   rw[List.drop_eq_getElem_cons hkl,zM] at hl
   by_cases hsm:s≤most
   ·have hsi:(s:Int)≤(most:Int):=by omega
    rw[if_pos hsm] at hl
    obtain rfl:=HA.out k hlt
    obtain⟨a',c',hc0,-⟩:=HX.out k hkl
    have hc1:=hc0 wr hB
    have hbl:=World.block_lt_of_cell? wr _ hc1
    have hq1:=HQ.out _ (List.getElem_mem hkl)
    generalize (L[k]).length=m at *
    have hw1:IntKind.i64.wrap ((s:Int)+(m:Int))=((s+m:Nat):Int):=by rw[IntWalk.i64_in _ (by omega)];omega
    have hw2:IntKind.i64.wrap ((k:Int)+1)=((k+1:Nat):Int):=by rw[IntWalk.i64_in _ (by omega)];omega
    have HL:=ah hl
    clear hl hc0 hkl
    go_wp2
    exact⟨⟨k+1,s+m,hlt,rfl,rfl,hB,HL.out,by omega⟩,by simp[intOf];omega⟩
   ·have hsi:¬ (s:Int)≤(most:Int):=by omega
    rw[if_neg hsm] at hl
    have HL:=ah hl
    clear hl hkl
    go_wp2
    go_ret
    exact⟨s,rfl,hB,by rw[HL.out];exact HS.out⟩
  ·have hki:¬ (k:Int)<(n:Int):=by omega
   rw[List.drop_eq_nil_of_le (by have:=HN.out;omega),zM] at hl
   have HL:=ah hl
   clear hl
   go_wp2
   go_ret
   exact⟨s,rfl,hB,by rw[HL.out];exact HS.out⟩
end
section
open Go.RowKit
theorem jd.lt{sb top vb n:Nat}{V:au}{D:ay}{w0 w w':World}{X:eG}{g:Option Nat}(h:jd sb top vb n V D w0 w X g)(hlt:sb<top)(hs:w.heap.size≤w'.heap.size)(hb:∀ b,b<w.heap.size→(b<top∨g=some b)→w'.heap[b]?=w.heap[b]?):jd sb top vb n V D w0 w' X g:=by
 obtain⟨⟨m1,m2⟩,ha,m,hc,s,j,r,hH,hga,hbx,hst⟩:=h
 exact⟨⟨Nat.le_trans m1 hs,fun b h1 h2=>(hb b (Nat.lt_of_lt_of_le h2 m1) (.inl h2)).trans (m2 b h1 h2)⟩,ha,m,hc,s,j,r,hH.same hs (fun ad e=>hb _ (hH.ge ad e).2 (.inr (hga ad e))),hga,(hb sb hbx.lt (.inl hlt)).trans hbx,hst⟩
structure ae3(w:World)(sb top vb n:Nat)(V:au)(D:ay)(w0 wr:World)(X:eG)(g:Option Nat)(acc:List (Int×Nat×Nat))(va vw:Value)(W:List UInt8):Prop where
 st:jd sb top vb n V D w0 wr X g
 gl:∀ q,g=some q→q<wr.heap.size∧top≤q
 rel:jC D X W
 acs:Ez D X W acc
 all:Own wr top 61 3 gK va acc
 txt:Own wr top 5 1 bf vw W
 lM:∀ q,g=some q→va.ownBlock≠some q∧vw.ownBlock≠some q
 low:Below w.heap.size w wr
section
variable {w:World} {sb top vb n:Nat} {V:au} {D:ay} {w0 wr wr':World} {X:eG} {g:Option Nat} {acc:List (Int×Nat×Nat)} {va vw:Value} {W:List UInt8}
theorem ae3.kept(h:ae3 w sb top vb n V D w0 wr X g acc va vw W)(hlt:sb<top)(hb:Below wr.heap.size wr wr'):ae3 w sb top vb n V D w0 wr' X g acc va vw W :=
 ⟨h.st.kept hlt hb,fun q e=>⟨Nat.lt_of_lt_of_le (h.gl q e).1 hb.size,(h.gl q e).2⟩,h.rel,h.acs,h.all.kept hb,h.txt.kept hb,h.lM,h.low.trans (hb.mono h.low.size)⟩
end
end
section
open Go.RowKit
def UK(V:au)(xb:Nat)(ov:Option Nat)(L:List (Int×Nat×Nat))(Y:eG)(W':List UInt8)(w:World)(e:Ending)(w':World):Prop :=
 ∃ a c ta m tc,e=.returned (.tuple #[.slice a L.length c,.agg (sC V (dT ta m tc Y.en Y.at_))])∧Own w' w.heap.size 61 3 gK (.slice a L.length c) L∧Own w' (xb+1) 5 1 bf (.slice ta m tc) W'∧(∀ q,(Value.slice ta m tc).ownBlock=some q→ov=some q∨w.heap.size≤q)∧Below w.heap.size w w'
theorem xO{α:Type}{w:World}{base E size n c:Nat}{enc:α→List Value}{a:Option Addr}{xs:List α}(h:Own w base E size enc (.slice a n c) xs):n=xs.length:=h.open.1
theorem ahf(V:au)(D:ay)(W:List UInt8)(ta:Option Addr)(m tc:Nat)(X:eG)(xb:Nat)(w:World)(h:dN w V D)(hof:∀ b,V.of b<256)(hl:∀ x∈D.names,x.length≤9223372036854775807)(hr:dS D=true)(hR:jC D X W)(ho:Own w (xb+1) 5 1 bf (.slice ta m tc) W)(hmb:W.length≤1099511627776) :
  Calls Tryz.prog 44 #[.agg (sC V (dT ta m tc X.en X.at_))] w (UK V xb (Value.slice ta m tc).ownBlock (rY D X).1 (rY D X).2 W w):=by
 have hm:=xO ho
 cases hen:X.en with
 | true =>
  have he:rY D X=([],X):=by unfold rY;rw[if_pos hen]
  rw[he]
  refine(UA V ta m tc X.at_ w).mono ?_
  rintro e w' ⟨a,n,c,rfl,h1,h2⟩
  obtain rfl:=xO h1
  exact⟨a,c,ta,m,tc,by rw[hen],h1,ho.kept h2,fun q e=>.inl e,h2⟩
 | false =>
  obtain⟨g1,g2,g3,-⟩:=hR.fin hen
  refine(ab6 V D W ta m tc X.at_ w h hof hl hr (ho.slice jU) (by rw[hm];exact hR.le) (by omega)).mono ?_
  rintro e w' ⟨a,n,c,rfl,h1,h2⟩
  obtain rfl:=xO h1
  exact⟨a,c,ta,m,tc,by rw[g1,g2,g3],by rw[g1];exact h1,ho.kept h2,fun q e=>.inl e,h2⟩
def zN(X:eG)(W b:List UInt8):List UInt8:=if X.en=true then W else W++b
theorem ach(X:eG)(W b:List UInt8):(zN X W b).length≤W.length+b.length:=by
 unfold zN
 split
 ·omega
 ·rw[List.length_append];omega
theorem ae4(V:au)(D:ay)(W b:List UInt8)(ta ba:Option Addr)(m tc bn bc:Nat)(X:eG)(xb:Nat)(w:World)(h:dN w V D)(hof:∀ b,V.of b<256)(hl:∀ x∈D.names,x.length≤9223372036854775807)(hr:dS D=true)(hR:jC D X W)(ho:Own w (xb+1) 5 1 bf (.slice ta m tc) W)(hb:ak w (.slice ba bn bc) 1 bf b)(hmb:W.length+b.length≤1099511627776)(hx:xb+1≤w.heap.size) :
  Calls Tryz.prog 47 #[.agg (sC V (dT ta m tc X.en X.at_)),.slice ba bn bc] w (UK V xb (Value.slice ta m tc).ownBlock (ji D X b).1 (ji D X b).2 (zN X W b) w):=by
 have hm:=xO ho
 have hbn:=tX hb
 cases hen:X.en with
 | true =>
  have he:ji D X b=([],X):=by unfold ji;rw[if_pos (.inl hen)]
  rw[he]
  refine(Qq V ta m tc X.at_ _ w).mono ?_
  rintro e w' ⟨a,n,c,rfl,h1,h2⟩
  obtain rfl:=xO h1
  exact⟨a,c,ta,m,tc,by rw[hen],h1,by unfold zN;rw[if_pos hen];exact ho.kept h2,fun q e=>.inl e,h2⟩
 | false =>
  obtain⟨g1,g2,g3,-⟩:=hR.feed (yM hr) hen b
  refine(Zi V D W b ta ba m tc bn bc X.at_ w h hof hl hr (ho.slice jU) hb (by rw[hm];exact hR.le) (by omega)).mono ?_
  rintro e w' ⟨a,n,c,ta',m',UL,rfl,h1,h3,h2⟩
  obtain rfl:=xO h1
  exact⟨a,c,ta',m',UL,by rw[g1,g2,g3],by rw[g1];exact h1,by unfold zN;rw[if_neg (by rw[hen];decide)];exact h3.mono hx,fun q e=>.inr (h3.bC q e).1,h2⟩
theorem ahg{D:ay}{X:eG}{W:List UInt8}(h:jC D X W):jC D (rY D X).2 W:=by
 cases hen:X.en with
 | true=>rw[show rY D X=([],X) by unfold rY;rw[if_pos hen]];exact h
 | false=>exact(h.fin hen).2.2.2
theorem ae5{D:ay}(hw:jF D){X:eG}{W:List UInt8}(h:jC D X W)(b:List UInt8):jC D (ji D X b).2 (zN X W b):=by
 unfold zN
 cases hen:X.en with
 | true=>rw[show ji D X b=([],X) by unfold ji;rw[if_pos (.inl hen)]];exact h
 | false=>exact(h.feed hw hen b).2.2.2
structure CU(w:World)(sb top vb n:Nat)(U V:au)(D:ay)(w0 wr:World)(X:eG)(g:Option Nat)(xb:Nat)(ta:Option Addr)(m tc:Nat)(W:List UInt8):Prop where
 st:jd sb top vb n U D w0 wr X g
 gl:∀ q,g=some q→q<wr.heap.size∧top≤q
 rel:jC D X W
 box:Box wr xb (sC V (dT ta m tc X.en X.at_)) 69
 txt:Own wr (xb+1) 5 1 bf (.slice ta m tc) W
 lM:∀ q,g=some q→(Value.slice ta m tc).ownBlock≠some q
 gx:g≠some xb
 low:Below w.heap.size w wr
section
variable {w:World} {sb top vb n:Nat} {U V:au} {D:ay} {w0 wr w4 w5:World} {X Y:eG} {g g4:Option Nat} {xb:Nat} {ta ta':Option Addr} {m tc m' UL:Nat} {W W':List UInt8}
theorem CU.kept(h:CU w sb top vb n U V D w0 wr X g xb ta m tc W)(hlt:sb<top)(hb:Below wr.heap.size wr w4):CU w sb top vb n U V D w0 w4 X g xb ta m tc W :=
 ⟨h.st.kept hlt hb,fun q e=>⟨Nat.lt_of_lt_of_le (h.gl q e).1 hb.size,(h.gl q e).2⟩,h.rel,h.box.kept hb,h.txt.kept hb,h.lM,h.gx,h.low.trans (hb.mono h.low.size)⟩
theorem CU.fed(h:CU w sb top vb n U V D w0 wr X g xb ta m tc W)(hlt:sb<top)(hsb:w.heap.size≤sb)(hxb:top≤xb)(hk:mJ sb g wr w4)(hg:∀ k,g4=some k→(g=some k∨wr.heap.size≤k)∧k<w4.heap.size) :
  Box w4 xb (sC V (dT ta m tc X.en X.at_)) 69∧Own w4 (xb+1) 5 1 bf (.slice ta m tc) W∧Below w.heap.size w w4∧∀ q,g4=some q→q<w4.heap.size∧top≤q∧q≠xb∧(Value.slice ta m tc).ownBlock≠some q:=by
 have hxl:=h.box.lt
 refine⟨(hk.block xb hxl (by omega) h.gx).trans h.box,h.txt.bW fun q e=>hk.block q (h.txt.bC q e).2 (by have:=(h.txt.bC q e).1;omega) (fun e2=>h.lM q e2 e),hk.toBelow h.low hsb (fun q e=>by have:=(h.gl q e).2;omega),fun q e=>?_⟩
 rcases (hg q e).1 with h1 | h1
 ·exact⟨(hg q e).2,(h.gl q h1).2,fun e2=>h.gx (by rw[h1,e2]),h.lM q h1⟩
 ·exact⟨(hg q e).2,by omega,by omega,fun e2=>by have:=(h.txt.bC q e2).2;omega⟩
theorem UM(hlt:sb<top)(hsb:w.heap.size≤sb)(hxb:top≤xb)(hS:jd sb top vb n U D w0 w4 Y g4)(hB:Below w.heap.size w w4)(hx:xb<w4.heap.size)(hg:∀ q,g4=some q→q<w4.heap.size∧top≤q∧q≠xb∧(Value.slice ta m tc).ownBlock≠some q)
  (hb5:Below w4.heap.size w4 w5) {old:Array Value} (hbx:Box w5 xb old 69) (ho:Own w5 (xb+1) 5 1 bf (.slice ta' m' UL) W') (hd:∀ q,(Value.slice ta' m' UL).ownBlock=some q→(Value.slice ta m tc).ownBlock=some q∨w4.heap.size≤q) (hR:jC D Y W') :
  CU w sb top vb n U V D w0 (w5.setRow xb (sC V (dT ta' m' UL Y.en Y.at_))) Y g4 xb ta' m' UL W':=by
 have hsz:=hb5.size
 have hs2:(w5.setRow xb (sC V (dT ta' m' UL Y.en Y.at_))).heap.size=w5.heap.size:=setRow_size _ _ _
 refine⟨hS.lt hlt (by omega) fun b hb hc=>(setRow_other w5 xb b _ ?_).trans (hb5.block b hb),fun q e=>⟨by have:=(hg q e).1;omega,(hg q e).2.1⟩,hR,hbx.setRow _,ho.bW fun q e=>setRow_other w5 xb q _ (by have:=(ho.bC q e).1;omega),fun q e e2=>?_,fun e=>(hg xb e).2.2.1 rfl,below_setRow (hB.trans (hb5.mono hB.size)) (by omega) _⟩
 ·rcases hc with hc | hc
  ·omega
  ·exact(hg b hc).2.2.1
 ·rcases hd q e2 with h1 | h1
  ·exact(hg q e).2.2.2 h1
  ·have:=(hg q e).1;omega
end
end
section
open Go.RowKit
theorem aci(V:au):Tryz.prog.built 69 [(0,.agg V.cells)]=some (sC V z34):=by
 obtain⟨it,hi⟩:∃ it,Tryz.prog.info? 69=some it:=Option.isSome_iff_exists.1 (by kernel_rfl)
 have hz0:=Qc
 rw[hi] at hz0
 simp only[Option.map_some,Option.some.injEq,Prod.mk.injEq] at hz0
 obtain⟨hz,-⟩:=hz0
 rw[AO (places:=[(0,260),(260,1),(261,1),(262,1)]) _ hi Tryz.underlying69 hz (by kernel_rfl)]
 have hs:=au.size V
 have hzs:(sC nH z34).size=263:=by rw[dW];rfl
 have hgg:=fun i=>zJ 0 V.cells.toList 0 (sC nH z34) i (by rw[Array.length_toList];omega)
 simp only[←AL] at hgg
 have e0:=GZ (place:=(([(0,260),(260,1),(261,1),(262,1)]:List (Nat×Nat)).toArray[·]?)) (cells:=sC nH z34) (i:=0) (off:=0) (size:=260) (v:=.agg V.cells) (rest:=[]) rfl hs (by omega)
 refine e0.trans ?_
 show some (V.cells.zipIdx.foldl (fun cs (x:Value×Nat)=>cs.setIfInBounds (0+x.2) x.1) (sC nH z34))=_
 generalize V.cells.zipIdx.foldl (fun cs (x:Value×Nat)=>cs.setIfInBounds (0+x.2) x.1) (sC nH z34)=F at *
 refine congrArg some (Array.ext_getElem? fun i=>?_)
 rw[hgg i]
 by_cases hi2:i<260
 ·rw[if_pos (by rw[Array.length_toList];omega),Array.getElem?_toList,show i - (0+0)=i by omega,tV _ _ _ hi2]
 ·rw[if_neg (by rw[Array.length_toList];omega)]
  obtain⟨k,rfl⟩:∃ k,i=260+k:=⟨i - 260,by omega⟩
  rw[yx,yx]
theorem Qs{ops:Array Oper}{rest:List Oper}{o:Oper}{a:Act}{Q:Exit→Act→World→Prop}{w:World}{t:TypeId}{parts:Array (Nat×Operand)}{cells:Array Value}{vals:List (Nat×Value)}(hgd:o.guard=none)(ho:o.op=.build t parts)(hv:parts.toList.map (fun p=>(p.1,a.eval p.2))=vals)(hb:Tryz.prog.built t vals=some cells)
  (h:wpList Tryz.prog ops Q rest (a.put o.dst (.agg cells)) w):wpList Tryz.prog ops Q (o::rest) a w :=
 wpList_plain hgd fun _ hK=>by
  unfold Oper.wp
  rw[rX ho hv hb]
  exact hK _ _ h
def akF(w4:World)(V:au)(Y:eG)(xb:Nat)(old:Array Value)(ov:Option Nat)(toks:List (Int×Nat×Nat))(W':List UInt8)(yb:Nat)(a5:Option Addr)(c5:Nat)(nS:Option Addr)(m5 nT:Nat)(W5:World):Prop :=
 Below w4.heap.size w4 W5∧w4.heap.size≤yb∧Box W5 yb (sC V (dT nS m5 nT Y.en Y.at_)) 69∧Own W5 w4.heap.size 61 3 gK (.slice a5 toks.length c5) toks∧Own W5 (xb+1) 5 1 bf (.slice nS m5 nT) W'∧(∀ q,(Value.slice nS m5 nT).ownBlock=some q→ov=some q∨w4.heap.size≤q)∧Box W5 xb old 69
theorem ali(P:Nat→Option Addr→Nat→Option Addr→Nat→Nat→World→Prop){T:Nat→Option Addr→Nat→Option Addr→Nat→Nat→World→Prop}{G:Prop}(h1:(∀ yb a c ta m tc W,P yb a c ta m tc W→T yb a c ta m tc W)→G)(h2:∀ yb a c ta m tc W,P yb a c ta m tc W→T yb a c ta m tc W):G:=h1 h2
theorem ae6(V:au)(D:ay)(w:World)(v z:Value)(h:dN w V D)(hl:∀ x∈D.names,x.length≤9223372036854775807)(hr:dS D=false)(hT:Tab w)(hM:xK w) :
  Calls Tryz.prog 10 #[.agg V.cells,v,z] w (bM w (.bool true)):=by
 have hx:=Box.new w V.cells 27
 have hB:=aj w (.cells V.cells 27)
 have HK:=ah (fun u (hu:Below w.heap.size w u)=>Ot u (hT.kept hu) (hM.kept hu))
 have H1:=ah (fun u (hu:Below w.heap.size w u)=>ace V D u (h.kept hu) hl hr)
 have HR:=ah (fun u (hu:Below w.heap.size w u)=>hr▸rM V D u (h.kept hu) hl)
 clear h hl hr hT hM
 go_enter Tryz.func10,Tryz.ntmps10
 go_wp2_with (first | (refine aI (by rfl) 27 _ rfl w.heap.size rfl _ _ _ _ hx Tryz.underlying27 rfl (aZ _) ?_) | (go_at_call 39;go_must (refine(H1.out _ hB).mono ?_;rintro e w2 ⟨rfl,hb2⟩;have hx:=hx.kept hb2;have hB:=hB.trans (hb2.mono hB.size))) | (go_at_call 40;go_must (refine(HR.out _ hB).mono ?_;rintro e w3 ⟨rfl,hb3⟩;have hB3:=hB.trans (hb3.mono hB.size))) | (go_at_call 42;go_must (refine(HK.out _ hB3).mono ?_;rintro e w5 ⟨rfl,hb5⟩;have dG:=hB3.trans (hb5.mono hB3.size))))
 go_ret
 exact⟨rfl,dG⟩
theorem Zp(V:au)(D:ay)(w:World)(a:Option Addr)(n c:Nat)(z:Value)(L:List (List UInt8))(h:dN w V D)(hof:∀ b,V.of b<256)(hl:∀ x∈D.names,x.length≤9223372036854775807)(hr:dS D=true)(hL:sG w a n c L)(hq:∀ x∈L,x.length≤140737488351232)(hT:Tab w)(hM:xK w)(hbig:40<V.ln∨15<n∨60<total L) :
  Calls Tryz.prog 10 #[.agg V.cells,.slice a n c,z] w (bM w (.bool true)):=by
 have hx:=Box.new w V.cells 27
 have hB:=aj w (.cells V.cells 27)
 have HK:=ah (fun u (hu:Below w.heap.size w u)=>Ot u (hT.kept hu) (hM.kept hu))
 have H1:=ah (fun u (hu:Below w.heap.size w u)=>UE V D u (h.kept hu) hl hr)
 have HR:=ah (fun u (hu:Below w.heap.size w u)=>hr▸rM V D u (h.kept hu) hl)
 have NH:=ah (fun u (hu:Below w.heap.size w u)=>I8 V D 40 u (h.kept hu) hof hl)
 have H2:=ah (fun u (hu:Below w.heap.size w u)=>Xo a n c L 60 u (hL.kept hu) hq (by decide))
 rw[hr,Bool.true_and] at NH
 clear h hl hr hT hM hL hq hof
 have hcs:40<V.ln∨(V.ln≤40∧15<n)∨(V.ln≤40∧¬ 15<n∧60<total L):=by omega
 rcases hcs with h40 | ⟨h40,h15⟩ | ⟨h40,h15,ht⟩
 focus
  rw[show decide ((V.ln:Int)≤40)=false by simp;omega] at NH
 rotate_left
 focus
  have hi:(15:Int)<(n:Int):=by omega
  rw[show decide ((V.ln:Int)≤40)=true by simp;omega] at NH
 rotate_left
 focus
  have hi:¬ (15:Int)<(n:Int):=by omega
  rw[show decide ((V.ln:Int)≤40)=true by simp;omega] at NH
  replace H2:Hid (∀ u,Below w.heap.size w u→Calls Tryz.prog 41 #[.slice a n c,.int .i64 60] u fun e w'=>∃ s:Nat,e=.returned (.int .i64 s)∧Below u.heap.size u w'∧(60:Int)<(s:Int)):=ah fun u hu=>(H2.out u hu).mono (by
   rintro e w' ⟨s,rfl,hb,hs⟩
   have:=hs.2 ht
   exact⟨s,rfl,hb,by omega⟩)
 all_goals
  clear hbig h40
  go_enter Tryz.func10,Tryz.ntmps10
  go_wp2_with (first | (refine aI (by rfl) 27 _ rfl w.heap.size rfl _ _ _ _ hx Tryz.underlying27 rfl (aZ _) ?_) | (go_at_call 39;go_must (refine(H1.out _ hB).mono ?_;rintro e w2 ⟨sb,vb,U,wd,lb,lo,nb,no,rb,ro,rc,rfl,-,-,-,-,hb2⟩;have hx:=hx.kept hb2;have hB:=hB.trans (hb2.mono hB.size))) | (go_at_call 40;go_must (refine(HR.out _ hB).mono ?_;rintro e w3 ⟨rfl,hb3⟩;have hx:=hx.kept hb3;have hB:=hB.trans (hb3.mono hB.size))) | (go_at_call 20;go_must (refine(NH.out _ hB).mono ?_;rintro e w4 ⟨rfl,hb4⟩;have hx:=hx.kept hb4;have hB:=hB.trans (hb4.mono hB.size))) | (go_at_call 41;go_must (refine(H2.out _ hB).mono ?_;rintro e w6 ⟨s,rfl,hb6,hs6⟩;have hB:=hB.trans (hb6.mono hB.size))) | (go_at_call 42;go_must (refine(HK.out _ hB).mono ?_;rintro e w5 ⟨rfl,hb5⟩;have dG:=hB.trans (hb5.mono hB.size))))
  go_ret
  exact⟨rfl,dG⟩
end
end Go.Proofs.YtbemonecmmnlcaaGreatDoor
