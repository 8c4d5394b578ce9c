/- The texts of S7, in few letters (mini.py). -/
import Derived.Test.YtbemonecmmnlcaaGreatDoorM6
import Derived.Test.YtbemonecmmnlcaaGreatDoorCards
import Derived.Test.YtbemonecmmnlcaaGreatDoorTie
import Derived.Deep.DeepHandedRow
import Derived.Lib.LaidTab
set_option linter.unusedVariables false
set_option linter.unusedSimpArgs false
set_option maxHeartbeats 2000000
set_option maxRecDepth 20000
namespace Go.Proofs.YtbemonecmmnlcaaGreatDoor
section
open Go.RowKit Go.Shelf
attribute [local go_sem] Oper.semAt_some
def vP(lo hi:Int):Bool:=decide (0≤lo)&&decide (lo≤1000)&&(decide (hi=-1)||(decide (lo≤hi)&&decide (hi≤1000)))
def Ws:List Int:=[-1,0,0,0,2,2,1,1,1,1]
def gW(k:Int):Int:=if 0≤k∧k<10 then Ws.getD k.toNat (-1) else -1
def dI(k:Int)(s:ay)(n:Nat)(lo hi:Int):Bool :=
 (decide (k=3)||decide (s=0))&&(if k=9 then vP lo hi else decide (lo=0)&&decide (hi=0)) &&
  (if gW k=0 then decide (n=0) else if gW k=1 then decide (n=1) else if gW k=2 then decide (2≤n) else false)
mutual
def allT:Tr→Bool
 | .mk k s l lo hi=>dI k s l.length lo hi&&sG l
def sG:List Tr→Bool
 | []=>true
 | a::l=>allT a&&sG l
end
def iw(A:Tr):Bool:=decide (sizeT A≤4096)&&allT A
theorem Ie(lo hi:Int)(w:World):Calls Tryz.prog 227 #[.int .i64 lo,.int .i64 hi] w (bV w (.bool (vP lo hi))):=by
 go_enter Tryz.func227,Tryz.ntmps227
 go_wp2
 all_goals
  go_ret
  refine⟨congrArg (fun b=>Ending.returned (Value.bool b)) ?_,by go_grown⟩
  rw[Bool.eq_iff_iff]
  simp[vP]
  try omega
theorem Wu(n:Nat)(h:n<10):[Value.int .i64 (-1),.int .i64 0,.int .i64 0,.int .i64 0,.int .i64 2,.int .i64 2,.int .i64 1,.int .i64 1,.int .i64 1,.int .i64 1][n]?=some (.int .i64 (gW n)):=by
 match n,h with
 | 0,_=>rfl
 | 1,_=>rfl
 | 2,_=>rfl
 | 3,_=>rfl
 | 4,_=>rfl
 | 5,_=>rfl
 | 6,_=>rfl
 | 7,_=>rfl
 | 8,_=>rfl
 | 9,_=>rfl
theorem qc(k:Int)(w:World):Calls Tryz.prog 228 #[.int .i64 k] w (bV w (.int .i64 (gW k))):=by
 by_cases h0:k<0
 ·have e:gW k=-1:=by unfold gW;rw[if_neg (by omega)]
  rw[e]
  clear e
  go_enter Tryz.func228,Tryz.ntmps228
  go_wp2
  go_ret
  exact⟨rfl,by go_grown⟩
 ·by_cases h1:10≤k
  ·have e:gW k=-1:=by unfold gW;rw[if_neg (by omega)]
   rw[e]
   clear e
   go_enter Tryz.func228,Tryz.ntmps228
   go_wp2
   go_ret
   exact⟨rfl,by go_grown⟩
  ·obtain⟨n,rfl⟩:=Int.eq_ofNat_of_zero_le (show 0≤k by omega)
   have hn:n<10:=by omega
   have hg:=Wu n hn
   generalize gW (n:Int)=z at *
   go_enter Tryz.func228,Tryz.ntmps228
   go_wp2
   go_ret
   refine⟨congrArg Ending.returned ?_,by go_grown⟩
   obtain⟨_,hz⟩:=List.getElem?_eq_some_iff.1 hg
   simp
   exact hz
theorem QJ(k:Int):gW k=-1∨gW k=0∨gW k=1∨gW k=2:=by
 unfold gW
 split
 ·rename_i h
  obtain⟨n,rfl⟩:=Int.eq_ofNat_of_zero_le h.1
  have hn:n<10:=by omega
  match n,hn with
  | 0,_ | 1,_ | 2,_ | 3,_ | 4,_ | 5,_ | 6,_ | 7,_ | 8,_ | 9,_=>decide
 ·exact .inl rfl
theorem Ua(k:Int)(s:ay)(a:Option Addr)(n cap:Nat)(lo hi:Int)(w:World):Calls Tryz.prog 180 #[.agg (aA k s a n cap lo hi).toArray] w (bV w (.bool (dI k s n lo hi))):=by
 have hq:=Y9 (P:=Tryz.prog) (t:=149) (e:=147) Tryz.underlying149 Tryz.underlying147 (by kernel_rfl) s 0
 unfold oH at hq
 rw[mJ] at hq
 by_cases h3:k=3
 ·subst h3
  have ar:gW 3=0:=by decide
  by_cases h1:lo=0
  ·subst h1
   by_cases h2:hi=0
   ·subst h2
    have e:dI 3 s n 0 0=((n:Int)==0):=by unfold dI;rw[ar];rw[Bool.eq_iff_iff];simp
    rw[e]
    clear e hq ar
    go_enter Tryz.func180,Tryz.ntmps180
    go_wp2_with (go_at_call 228;go_must (refine(qc 3 _).mono ?_;rintro e w1 ⟨rfl,hb⟩;rw[show gW 3=0 by decide];have x5:=((Box.new w (aA 3 s a n cap 0 0).toArray 151).kept hb).cell 5))
    go_ret
    exact⟨rfl,((Below.refl w.heap.size w).alloc (Nat.le_refl _) _).trans (hb.mono (by simp))⟩
   ·have e:dI 3 s n 0 hi=false:=by unfold dI;simp[h2]
    have g2:(hi != 0)=true:=by simpa using h2
    rw[e]
    clear e hq ar h2
    go_enter Tryz.func180,Tryz.ntmps180
    go_wp2
    go_ret
    exact⟨rfl,by go_grown⟩
  ·have e:dI 3 s n lo hi=false:=by unfold dI;simp[h1]
   have g1:(lo != 0)=true:=by simpa using h1
   rw[e]
   clear e hq ar h1
   go_enter Tryz.func180,Tryz.ntmps180
   go_wp2
   go_ret
   exact⟨rfl,by go_grown⟩
 ·have g3:(k != 3)=true:=by simpa using h3
  by_cases hs:s=0
  ·rw[decide_eq_true hs] at hq
   by_cases h9:k=9
   ·subst h9
    have ar:gW 9=1:=by decide
    cases ht:vP lo hi with
    | true =>
     have e:dI 9 s n lo hi=((n:Int)==1):=by
      unfold dI;rw[ar,ht,hs];rw[Bool.eq_iff_iff];simp;omega
     have HT:=ah ht
     rw[e]
     clear e hs h3 ar ht
     go_enter Tryz.func180,Tryz.ntmps180
     go_wp2_with (first | (go_at_call 227;go_must (refine(Ie lo hi _).mono ?_;rintro e w0 ⟨rfl,hb0⟩;rw[HT.out];have y:=(Box.new w (aA 9 s a n cap lo hi).toArray 151).kept hb0;have y0:=y.cell 0;have y5:=y.cell 5)) | (go_at_call 228;go_must (refine(qc 9 _).mono ?_;rintro e w1 ⟨rfl,hb⟩;rw[show gW 9=1 by decide];have x5:=(y.kept hb).cell 5)))
     go_ret
     exact⟨rfl,(((Below.refl w.heap.size w).alloc (Nat.le_refl _) _).trans (hb0.mono (by simp))).trans (hb.mono (by have:=hb0.size;simp at this;omega))⟩
    | false =>
     have e:dI 9 s n lo hi=false:=by unfold dI;simp[ht]
     have HT:=ah ht
     rw[e]
     clear e hs h3 ar ht
     go_enter Tryz.func180,Tryz.ntmps180
     go_wp2_with (go_at_call 227;go_must (refine(Ie lo hi _).mono ?_;rintro e w0 ⟨rfl,hb0⟩;rw[HT.out]))
     go_ret
     exact⟨rfl,((Below.refl w.heap.size w).alloc (Nat.le_refl _) _).trans (hb0.mono (by simp))⟩
   ·have g9:(k==9)=false:=by simpa using h9
    by_cases h1:lo=0
    ·subst h1
     by_cases h2:hi=0
     ·subst h2
      rcases QJ k with hz | hz | hz | hz
      ·have e:dI k s n 0 0=false:=by unfold dI;rw[hz,hs];rw[Bool.eq_iff_iff];simp[h9]
       have HZ:=ah hz
       rw[e]
       clear e hz hs h3 h9
       go_enter Tryz.func180,Tryz.ntmps180
       go_wp2_with (go_at_call 228;go_must (refine(qc k _).mono ?_;rintro e w1 ⟨rfl,hb⟩;rw[HZ.out];have x5:=((Box.new w (aA k s a n cap 0 0).toArray 151).kept hb).cell 5))
       go_ret
       exact⟨rfl,((Below.refl w.heap.size w).alloc (Nat.le_refl _) _).trans (hb.mono (by simp))⟩
      ·have e:dI k s n 0 0=((n:Int)==0):=by unfold dI;rw[hz,hs];rw[Bool.eq_iff_iff];simp[h9]
       have HZ:=ah hz
       rw[e]
       clear e hz hs h3 h9
       go_enter Tryz.func180,Tryz.ntmps180
       go_wp2_with (go_at_call 228;go_must (refine(qc k _).mono ?_;rintro e w1 ⟨rfl,hb⟩;rw[HZ.out];have x5:=((Box.new w (aA k s a n cap 0 0).toArray 151).kept hb).cell 5))
       go_ret
       exact⟨rfl,((Below.refl w.heap.size w).alloc (Nat.le_refl _) _).trans (hb.mono (by simp))⟩
      ·have e:dI k s n 0 0=((n:Int)==1):=by unfold dI;rw[hz,hs];rw[Bool.eq_iff_iff];simp[h9];omega
       have HZ:=ah hz
       rw[e]
       clear e hz hs h3 h9
       go_enter Tryz.func180,Tryz.ntmps180
       go_wp2_with (go_at_call 228;go_must (refine(qc k _).mono ?_;rintro e w1 ⟨rfl,hb⟩;rw[HZ.out];have x5:=((Box.new w (aA k s a n cap 0 0).toArray 151).kept hb).cell 5))
       go_ret
       exact⟨rfl,((Below.refl w.heap.size w).alloc (Nat.le_refl _) _).trans (hb.mono (by simp))⟩
      ·have e:dI k s n 0 0=decide (2≤(n:Int)):=by unfold dI;rw[hz,hs];rw[Bool.eq_iff_iff];simp[h9];omega
       have HZ:=ah hz
       rw[e]
       clear e hz hs h3 h9
       go_enter Tryz.func180,Tryz.ntmps180
       go_wp2_with (go_at_call 228;go_must (refine(qc k _).mono ?_;rintro e w1 ⟨rfl,hb⟩;rw[HZ.out];have x5:=((Box.new w (aA k s a n cap 0 0).toArray 151).kept hb).cell 5))
       go_ret
       exact⟨rfl,((Below.refl w.heap.size w).alloc (Nat.le_refl _) _).trans (hb.mono (by simp))⟩
     ·have e:dI k s n 0 hi=false:=by unfold dI;simp[h2,h9]
      have g2:(hi != 0)=true:=by simpa using h2
      rw[e]
      clear e hs h3 h2 h9
      go_enter Tryz.func180,Tryz.ntmps180
      go_wp2
      go_ret
      exact⟨rfl,by go_grown⟩
    ·have e:dI k s n lo hi=false:=by unfold dI;simp[h1,h9]
     have g1:(lo != 0)=true:=by simpa using h1
     rw[e]
     clear e hs h3 h1 h9
     go_enter Tryz.func180,Tryz.ntmps180
     go_wp2
     go_ret
     exact⟨rfl,by go_grown⟩
  ·have e:dI k s n lo hi=false:=by unfold dI;rw[decide_eq_false h3,decide_eq_false hs];rfl
   rw[decide_eq_false hs] at hq
   rw[e]
   clear e h3 hs
   go_enter Tryz.func180,Tryz.ntmps180
   go_wp2
   go_ret
   exact⟨rfl,by go_grown⟩
end
section
open Go.RowKit Go.Shelf
attribute [local go_sem] Oper.semAt_some
def Aa:Vt→Bool
 | .mk k s _ _ kids lo hi=>dI k s kids.length lo hi
def Good(l:List Vt):Prop:=l.length≤4096∧∀ x∈l,Aa x=true
theorem Good.snoc{l:List Vt}{x:Vt}(h:Good l)(hl:l.length+1≤4096)(hx:Aa x=true):Good (l++[x]) :=
 ⟨by simpa using hl,fun y hy=>(List.mem_append.1 hy).elim (h.2 y) fun e=>by rw[List.mem_singleton.1 e];exact hx⟩
theorem Good.Wv{l m:List Vt}(h:Good m)(hp:l <+: m):Good l:=⟨Nat.le_trans hp.length_le h.1,fun x hx=>h.2 x (hp.subset hx)⟩
theorem Zh:∀ V:Vt,allT V.tr=true↔∀ x∈iO V,Aa x=true:=by
 refine Vt.ind fun k s a cap kids lo hi ih=>?_
 have key:∀ l:List Vt,(∀ i (h:i<l.length),allT (Vt.tr l[i])=true↔∀ x∈iO l[i],Aa x=true)→(sG (l.map Vt.tr)=true↔∀ x∈fO l,Aa x=true):=by
  intro l
  induction l with
  | nil=>intro _;simp[sG,fO]
  | cons a l ihl =>
   intro h
   have h0:=h 0 (by simp)
   have h1:=ihl fun i hi=>h (i+1) (Nat.succ_lt_succ hi)
   simp only[List.getElem_cons_zero] at h0
   simp only[List.map_cons,sG,fO,Bool.and_eq_true,h0,h1,List.mem_append]
   constructor
   ·rintro⟨g0,g1⟩ x (hx | hx)
    ·exact g0 x hx
    ·exact g1 x hx
   ·exact fun g=>⟨fun x hx=>g x (.inl hx),fun x hx=>g x (.inr hx)⟩
 rw[Vt.jd]
 simp only[allT,iO,Bool.and_eq_true,key kids ih,List.length_map,List.mem_cons]
 constructor
 ·rintro⟨g0,g1⟩ x (rfl | hx)
  ·exact g0
  ·exact g1 x hx
 ·exact fun g=>⟨g _ (.inl rfl),fun x hx=>g x (.inr hx)⟩
theorem Wx(V:Vt):iw V.tr=true↔Good (iO V):=by
 unfold iw Good
 rw[Bool.and_eq_true,Zh,decide_eq_true_eq,Ze]
def adW(b B:Nat)(w:World)(pre:List Vt)(W:World):Prop:=(Box W (b+1) #[.bool false] 4∧Box W (b+1+1) #[.int .i64 (pre.length:Nat)] 3)∧(Good pre∧B≤W.heap.size)∧Below b w W
def adX(b:Nat)(w:World)(c:Code)(pre:List Vt)(W:World):Prop:=c=.ret∧Box W (b+1) #[.bool false] 4∧¬ Good pre∧Below b w W
def adY(b B:Nat)(V x:Vt)(a':Act)(W:World):Prop:=∃ Bx,B≤Bx∧Box W Bx x.cells.toArray 151 ∧
 a'={ tmps:=#[.agg V.cells.toArray,.pointer (some ⟨b,0,none⟩),.pointer (some ⟨b+1,0,none⟩),.pointer (some ⟨b+1+1,0,none⟩),.pointer (some ⟨Bx,0,none⟩),.agg V.cells.toArray,.func (.func 225) #[] #[.pointer (some ⟨b+1+1+1,0,none⟩)],.agg x.cells.toArray,undef,undef,undef,undef,undef,undef,undef,undef,undef],defers:=[] }
set_option maxRecDepth 100000 in
theorem Bg(V:Vt)(w:World)(hL:Lies w V):Calls Tryz.prog 140 #[.agg V.cells.toArray] w (bV w (.bool (iw V.tr))):=by
 have hr:=Wx V
 have hN:=Zg V
 refine(callsIn_wide (n:=6)).1 ?_
 refine callsIn_of_wp_marks Tryz.func140 rfl trivial ?_ rfl
 obtain⟨k,s,a,cap,kids,lo,hi⟩:=V
 change Code.wpIn _ _ _ _ _ { tmps:=#[.agg (aA k s a kids.length cap lo hi).toArray]++_,defers:=[] } _
 change ∀ w,Calls _ _ #[.agg (aA k s a kids.length cap lo hi).toArray] _ _ at hN
 have HR:=ah hr
 clear hr
 simp only[Tryz.ntmps140,List.size_toArray,List.length_cons,List.length_nil,Nat.reduceAdd,Nat.reduceSub,Array.replicate_succ,Array.replicate_zero,List.push_toArray,List.append_toArray,List.nil_append,List.cons_append]
 gi_wp2_with (refine⟨trivial,?_⟩;gi_at_call 179;refine(callsIn_wide.2 (hN _)).mono ?_;rintro e w' ⟨rfl,rfl⟩)
 have hL0:=hL
 clear hL
 obtain⟨V,hV⟩:∃ V,V=Vt.mk k s a cap kids lo hi:=⟨_,rfl⟩
 rw[←hV] at hL0 HR ⊢
 have hVc:.agg (aA k s a kids.length cap lo hi).toArray=Value.agg V.cells.toArray:=by rw[hV];rfl
 rw[hVc]
 have HV:=ah hV
 clear hN hVc hV
 obtain⟨W0,hW0⟩:∃ W0,((((w.alloc (.cells (aA k s a kids.length cap lo hi).toArray 151)).alloc (.cells #[.bool false] 4)).alloc (.cells #[.int .i64 0] 3)).alloc (.cells V.cells.toArray 151))=W0:=⟨_,rfl⟩
 have hB0:Below w.heap.size w W0:=by rw[←hW0];go_grown
 have hsz0:W0.heap.size=w.heap.size+1+1+1+1:=by rw[←hW0];simp
 have hbt:Box W0 (w.heap.size+1+1+1) V.cells.toArray 151:=by rw[←hW0];exact Box.new' (by simp) _ _
 have hn0:Box W0 (w.heap.size+1+1) #[.int .i64 0] 3:=by rw[←hW0];exact(Box.new' (by simp) _ _).alloc _
 have hr0:Box W0 (w.heap.size+1) #[.bool false] 4:=by rw[←hW0];exact((Box.new' (by simp) _ _).alloc _).alloc _
 rw[hW0]
 clear hW0
 have hO:On (fun b=>¬ (b=w.heap.size+1∨b=w.heap.size+1+1)) V:=hL0.on.mono fun b hb=>by omega
 have hst:=QI Fence.wide rfl 5 trivial trivial rfl (w.heap.size+1+1+1) (fun b=>b=w.heap.size+1∨b=w.heap.size+1+1) V W0 (fun b hb=>by omega) hbt (hL0.kept hB0) hO
 refine wpIn_rangeFunc_ownH rfl (by decide) (gf:=225) (lb:=#[.pointer (some ⟨w.heap.size+1+1+1,0,none⟩)]) rfl trivial (enters_of Tryz.func225 (by kernel_rfl) rfl)
  hst (fun h k=>h.trans k) Ey (Below.refl _ _) (fun _=>rfl)
  (adW w.heap.size W0.heap.size w) (adX w.heap.size w)
  (OwnFrom.and (OwnFrom.and (gJ _ _ _ _) (gJ _ _ _ _)) (OwnFrom.and (fun _ _ _ _ h hg _=>⟨h.1,Nat.le_trans h.2 hg.size⟩) (ownFrom_below (Nat.le_refl _) (by omega))))
  (fun _=>OwnFrom.and (fun _ _ _ _ h _ _=>h) (OwnFrom.and (gJ _ _ _ _) (OwnFrom.and (fun _ _ _ _ h _ _=>h) (ownFrom_below (Nat.le_refl _) (by omega)))))
  ⟨⟨hr0,hn0⟩,⟨⟨Nat.zero_le _,fun x h=>by simp at h⟩,Nat.le_refl _⟩,hB0⟩
  (adY w.heap.size W0.heap.size V)
  (fun x a'=>fun s W W' row ⟨Bx,h1,h2,h3⟩ hg hr=>⟨Bx,h1,gJ W0.heap.size Bx _ (fun _:Unit=>x.cells.toArray) () W W' row h2 hg hr,h3⟩) ?assign ?body ?done ?stop
 case assign =>
  rintro l pre ⟨k1,s1,a1,yK,wG,lo1,hi1⟩ W K ⟨⟨i1,i2⟩,⟨i3,hWs⟩,i4⟩ hK
  dsimp only[MV]
  change Code.wpIn _ _ _ _ _ { tmps:=(#[7].zip #[Value.agg (aA k1 s1 a1 wG.length yK lo1 hi1).toArray]).foldl _ _,defers:=_ } _
  gi_wp2
  exact hK _ _ ((KeepsOthers.alloc _ _).from _) (aJ.below ((Below.refl _ W).alloc (Nat.le_refl _) _)) ⟨⟨i1.alloc _,i2.alloc _⟩,⟨i3,by simp;omega⟩,i4.alloc i4.size _⟩ ⟨W.heap.size,hWs,Box.new W _ _,rfl⟩
 case body =>
  rintro l pre ⟨k1,s1,a1,yK,wG,lo1,hi1⟩ a' W hl ⟨r,hr⟩ ⟨⟨i1,i2⟩,⟨i3,hWs⟩,i4⟩ ⟨Bx,hBx,bx,rfl⟩ hlt
  have hpl:=i3.1
  have HG:=ah i3
  have r0:=i1.cell 0
  have r1:=i1.free 0
  have m0:=i2.cell 0
  have m1:=i2.free 0
  have bx':Box (W.setCell ⟨w.heap.size+1+1,0,none⟩ (.int .i64 ((pre.length:Int)+1))) Bx (aA k1 s1 a1 wG.length yK lo1 hi1).toArray 151:=bx.other _ _ (by simp;omega)
  have i2':Box (W.setCell ⟨w.heap.size+1+1,0,none⟩ (.int .i64 ((pre.length:Int)+1))) (w.heap.size+1+1) #[.int .i64 ((pre.length:Int)+1)] 3:=i2.set 0 _
  have Ob:Box (W.setCell ⟨w.heap.size+1+1,0,none⟩ (.int .i64 ((pre.length:Int)+1))) (w.heap.size+1) #[.bool false] 4:=i1.other _ _ (by simp)
  have hKO:=KeepsOthers.setCell W ⟨w.heap.size+1+1,0,none⟩ (.int .i64 ((pre.length:Int)+1))
  have hKC:=aJ.set (X:=fun b=>b=w.heap.size+1∨b=w.heap.size+1+1) W ⟨w.heap.size+1+1,0,none⟩ (.int .i64 ((pre.length:Int)+1)) (.inr rfl)
  have Wy:=i4.setCell (p:=⟨w.heap.size+1+1,0,none⟩) (by simp;omega) (.int .i64 ((pre.length:Int)+1))
  obtain⟨x0,x1,x2,x3,x4,x5,x6,x7⟩:=bx'.node
  have hcast:((pre.length:Int)+1)=(((pre++[Vt.mk k1 s1 a1 yK wG lo1 hi1]).length:Nat):Int):=by simp
  have HC:=ah hcast
  have y1:=Ob.free 0
  have y2:=Ob.cell 0
  clear hcast i1 i2 bx bx' i3
  by_cases h4:4096<(pre.length:Int)+1
  ·gi_wp2
   refine⟨trivial,?_⟩
   gi_wp2
   refine⟨(hKO.trans (KeepsOthers.setCell _ _ _)).from _,rfl,Ob.set 0 _,fun hg=>?_,Wy.setCell (by simp) _⟩
   have:=hg.1
   simp at this
   omega
  ·have hal:=Ua k1 s1 a1 wG.length yK lo1 hi1
   cases ha:dI k1 s1 wG.length lo1 hi1 with
   | true =>
    rw[ha] at hal
    have HA:=ah ha
    clear ha
    gi_wp2_with (refine⟨trivial,?_⟩;gi_at_call 180;refine(CallsIn.inRound l (callsIn_wide.2 (hal _))).mono ?_;rintro e w1 ⟨rfl,hb⟩)
    refine⟨?_,hKC.trans (aJ.below hb),⟨Ob.kept hb,by rw[←HC.out];exact i2'.kept hb⟩,⟨HG.out.snoc (by omega) HA.out,?_⟩,Wy.trans (hb.mono Wy.size)⟩
    ·exact(hKO.trans (KeepsOthers.of_grownBy (row:=none) ⟨hb.os,hb.tape,hb.output,hb.size,fun k hk _=>hb.block k hk⟩ (fun j o e=>by cases e))).from _
    ·have:=hKC.size;have:=hb.size;omega
   | false =>
    rw[ha] at hal
    have HA:=ah ha
    clear ha
    gi_wp2_with (refine⟨trivial,?_⟩;gi_at_call 180;refine(CallsIn.inRound l (callsIn_wide.2 (hal _))).mono ?_;rintro e w1 ⟨rfl,hb⟩;have z1:=(Ob.kept hb).free 0;have z2:=(Ob.kept hb).cell 0)
    refine⟨((hKO.trans (KeepsOthers.of_grownBy (row:=none) ⟨hb.os,hb.tape,hb.output,hb.size,fun k hk _=>hb.block k hk⟩ (fun j o e=>by cases e))).trans (KeepsOthers.setCell _ _ _)).from _,rfl,(Ob.kept hb).set 0 _,fun hg=>?_,(Wy.trans (hb.mono Wy.size)).setCell (by simp) _⟩
    have:=hg.2 _ (List.mem_append_right _ (List.mem_singleton_self _))
    rw[show Aa (Vt.mk k1 s1 a1 yK wG lo1 hi1)=dI k1 s1 wG.length lo1 hi1 from rfl,HA.out] at this
    cases this
 case done =>
  rintro D ys W hD rfl ⟨⟨i1,i2⟩,⟨i3,hWs⟩,i4⟩ hK
  have r0:=i1.cell 0
  have r1:=i1.free 0
  have hR:iw V.tr=true:=HR.out.2 i3
  gi_wp2
  have hK':=(KeepsOthers.setCell W ⟨w.heap.size+1,0,none⟩ (.bool true)).same D _ hK rfl
  refine⟨by simp,.inl ⟨_,_,rfl,run_takeDeferred hK',?_⟩⟩
  have hc5:=(gJ W0.heap.size (w.heap.size+1) 4 (fun _:Unit=>#[.bool true]) () _ _ (some D) (i1.set 0 (.bool true)) (grownBy_putObj' _ D (.deferred none)) (fun r e=>by cases e;exact⟨by omega,_,hK',rfl⟩)).cell 0
  refine⟨.bool true,?_,by rw[←HV.out,hR],(i4.setCell (p:=⟨w.heap.size+1,0,none⟩) (by simp) _).trans (belowK_b (w:=w) (Nat.le_refl _) _ D _ _ (by omega) hK' rfl rfl)⟩
  simp[results,Tryz.f140,go_sem,hc5]
 case stop =>
  rintro D c pre W hD hpre ⟨rfl,i1,i3,i4⟩ hK
  have hR:iw V.tr=false:=by rw[←Bool.not_eq_true,HR.out];exact fun hg=>i3 (hg.Wv hpre)
  gi_wp2
  refine⟨by simp,.inl ⟨_,_,rfl,run_takeDeferred hK,?_⟩⟩
  have hc5:=(gJ W0.heap.size (w.heap.size+1) 4 (fun _:Unit=>#[.bool false]) () _ _ (some D) i1 (grownBy_putObj' _ D (.deferred none)) (fun r e=>by cases e;exact⟨by omega,_,hK,rfl⟩)).cell 0
  refine⟨.bool false,?_,by rw[hR],i4.trans (belowK_b (w:=w) (Nat.le_refl _) W D _ _ (by omega) hK rfl rfl)⟩
  simp[results,Tryz.f140,go_sem,hc5]
end
section
open Go.ChangeShapes Go.WideShapes Go.ChangeAt Go.RowKit
theorem ag1:laidOutB Tryz.pinned.checked.prog=true:=by kernel_rfl
theorem ad1:mapsRowed Tryz.pinned.checked.prog=true:=by kernel_rfl
theorem ad2:Tryz.pinned.checked.prog.stopsHeard=true:=by kernel_rfl
theorem ad3:Tryz.pinned.checked.prog.mayEnter=true:=by kernel_rfl
theorem own:ownKnob Tryz.prog.godebug=none:=by kernel_rfl
theorem laidOut:laidOutB Tryz.prog=true:=by kernel_rfl
theorem gTab:Tryz.prog.globalNamed "math/bits.deBruijn64tab"=some 1:=by kernel_rfl
theorem Zi:(Tryz.prog.globals[1]?).map (·.type)=some 358:=by kernel_rfl
theorem Oc {W:World} (h:Lib.TabIs Tryz.prog W "math/bits.deBruijn64tab" .u8 (Lib.deBruijn64tab.map fun(x:Nat)=>(x:Int))):Tab W:=fun j hj=>by
 have:=h.cell gTab j (by simpa [Lib.deBruijn64tab] using hj)
 rw[this]
 have e:(Lib.deBruijn64tab.map fun(x:Nat)=>(x:Int)).getD j 0=((Lib.deBruijn64tab.getD j 0:Nat):Int):=by
  simp only[List.getD,List.getElem?_map]
  cases Lib.deBruijn64tab[j]? <;> rfl
 rw[e]
noncomputable def laidWorld(os:Os):World :=
 { World.holding Tryz.prog os ⟨#[],#[],[]⟩ with heap:=(World.holding Tryz.prog os ⟨#[],#[],[]⟩).heap.modify 1 fun
   | .cells _ t frozen=>.cells (Lib.deBruijn64tab.map fun(x:Nat)=>Value.int .u8 x).toArray t frozen
   | o=>o }
end
end Go.Proofs.YtbemonecmmnlcaaGreatDoor
