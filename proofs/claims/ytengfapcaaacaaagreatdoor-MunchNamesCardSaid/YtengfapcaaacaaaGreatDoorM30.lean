/- The texts of N30, in few letters (mini.py). -/
import Derived.Test.YtengfapcaaacaaaGreatDoorM29
set_option linter.unusedVariables false
set_option linter.unusedSimpArgs false
set_option maxHeartbeats 3200000
set_option maxRecDepth 20000
namespace Go.Proofs.YtengfapcaaacaaaGreatDoor
section
open Go.RowKit
theorem adu(N:Nf)(V:Y3)(b s:Nat)(w:World)(hb:Box w b (dF N V) 121):Calls Tryz.prog 193 #[.int .i64 s,.pointer (some ⟨b,0,none⟩)] w fun e w'=>e=.returned (.bool (decide (s<N.states)))∧w'=w:=by
 have x0:w.cell? ⟨b,0,none⟩=some (.int .i64 N.states):=hb.cell 0
 have h1:decide ((0:Int)≤(s:Int))=true:=by simp
 have h2:decide ((s:Int)<(N.states:Int))=decide (s<N.states):=by simp
 clear hb
 generalize N.states=n at *
 go_enter Tryz.func193,Tryz.ntmps193
 go_wp2
 go_ret
 exact⟨rfl,rfl⟩
theorem aaT(s:Nat)(w:World)(hs:s≤64):Calls Tryz.prog 195 #[.int .i64 s] w fun e w'=>e=.returned (.bool false)∧w'=w:=by
 have h1:decide ((s:Int)<0)=false:=decide_eq_false (by omega)
 have h2:decide ((64:Int)<(s:Int))=false:=decide_eq_false (by omega)
 go_enter Tryz.func195,Tryz.ntmps195
 go_wp2
 go_ret
 exact⟨rfl,rfl⟩
theorem U7(l:List Nat)(a:Option Addr)(n cap:Nat)(w:World)(h:ak w (.slice a n cap) 1 aO l)(hl:∀ x∈l,x≤64) :
  Calls Tryz.prog 237 #[.slice a n cap,.func (.func 195) #[] #[]] w (aY w (.int .i64 (-1))):=by
 obtain⟨b,o,hn,hc,hc2,ha,hx⟩:=h.dh
 have hnc:n≤cap:=by omega
 have HN:=ah hn;have HA:=ah ha;have HX:=ah hx;have HL:=ah hl
 clear h hn ha hx hl hc
 go_enter Tryz.func237,Tryz.ntmps237
 go_wp2
 go_loopw [8] (fun i wr=>∃ k:Nat,k≤n∧i=.int .i64 k∧wr=w) (fun i _=>n - (intOf i).toNat)
 case atStart=>exact⟨0,Nat.zero_le _,rfl,rfl⟩
 case round =>
  obtain⟨k,hk,rfl,hww⟩:=hrel
  subst wr
  by_cases hlt:k<n
  ·have hlk:k<l.length:=by rw[←HN.out];exact hlt
   obtain rfl:=HA.out k hlk
   have c0:=HX.out k hlk w (Below.refl _ _)
   have hcall:=aaT l[k] w (HL.out _ (List.getElem_mem hlk))
   generalize l[k]=x at *
   have hbl:=World.block_lt_of_cell? w _ c0
   have HC:=ah hcall
   clear hcall
   have hki:(k:Int)<(n:Int):=by omega
   have hk0:(0:Int)≤(k:Int):=by omega
   go_wp2_with (go_at_call 195;refine HC.out.mono ?_;rintro e w2 ⟨rfl,rfl⟩)
   exact⟨⟨k+1,hlt,by push_cast;rfl,trivial⟩,by simp[intOf];omega⟩
  ·obtain rfl:k=n:=by omega
   go_wp2
   go_ret
   exact⟨rfl,Below.refl _ _⟩
theorem NW(l:List Nat)(a:Option Addr)(n cap:Nat)(w:World)(h:ak w (.slice a n cap) 1 aO l)(hl:∀ x∈l,x≤64) :
  Calls Tryz.prog 194 #[.slice a n cap,.func (.func 195) #[] #[]] w (aY w (.bool false)):=by
 have H:=ah (U7 l a n cap w h hl)
 clear h hl
 go_enter Tryz.func194,Tryz.ntmps194
 go_wp2_with (go_at_call 237;go_must (refine H.out.mono ?_;rintro e w2 ⟨rfl,hb2⟩))
 go_ret
 exact⟨rfl,hb2⟩
theorem ak.form{α:Type}{w:World}{v:Value}{size:Nat}{enc:α→List Value}{xs:List α}(h:ak w v size enc xs):∃ a cap,v=.slice a xs.length cap:=by
 obtain⟨a,_,_,cap,hv,_⟩:=h;exact⟨a,cap,hv⟩
theorem yt{P:Nat→Value→Prop}(x0:Nat)(s:au)(x1:Nat)(h:∀ j u,(fU (x0,s,x1))[j]?=some u→P j u) :
  P 0 (.int .i64 x0)∧P 1 (.int .u64 (word s 0:Nat))∧P 2 (.int .u64 (word s 1:Nat))∧P 3 (.int .u64 (word s 2:Nat))∧P 4 (.int .u64 (word s 3:Nat))∧P 5 (.int .i64 x1) :=
 ⟨h 0 _ rfl,h 1 _ rfl,h 2 _ rfl,h 3 _ rfl,h 4 _ rfl,h 5 _ rfl⟩
theorem Pg(N:Nf)(V:Y3)(w:World)(h:sZ w N V)(hw:N.wf)(h0:0<N.states)(hs:N.states≤65536):Calls Tryz.prog 151 #[.agg (dF N V)] w (aY w (.bool true)):=by
 obtain⟨vl,ve,va⟩:=V
 obtain⟨la,lc,hvl⟩:=h.li.form
 obtain⟨ea,ec,lZ⟩:=h.ed.form
 obtain⟨aa,ac,hva⟩:=h.ac.form
 dsimp only at hvl lZ hva
 subst hvl
 subst lZ
 subst hva
 have hb0:=Box.new w (dF N ⟨.slice la N.links.length lc,.slice ea N.edges.length ec,.slice aa N.accept.length ac⟩) 121
 have hB0:=aj w (.cells (dF N ⟨.slice la N.links.length lc,.slice ea N.edges.length ec,.slice aa N.accept.length ac⟩) 121)
 have his:=fun(u:World) (s:Nat) hb=>adu N ⟨.slice la N.links.length lc,.slice ea N.edges.length ec,.slice aa N.accept.length ac⟩ w.heap.size s u hb
 obtain⟨lb,lo,_,hlc,adv,hla,hlx⟩:=h.li.open
 obtain⟨eb,eo,_,hec,aif,hea,hex⟩:=h.ed.open
 have hco:=fun(u:World) (hu:Below w.heap.size w u)=>NW N.accept aa N.accept.length ac u (h.ac.kept hu) hw.accept
 have hst:N.states=N.accept.length:=hw.st
 have hli:∀ k (hk:k<N.links.length),N.links[k].1<N.states∧N.links[k].2<N.states:=fun k hk=>hw.links _ (List.getElem_mem hk)
 have hed:∀ k (hk:k<N.edges.length),N.edges[k].1<N.states∧N.edges[k].2.2<N.states:=fun k hk=>hw.edges _ (List.getElem_mem hk)
 have hcl:∀ (wr:World) (k:Nat) (hk:k<N.links.length),Below w.heap.size w wr→wr.cell? ⟨lb,lo+k*2,none⟩=some (.int .i64 N.links[k].1)∧wr.cell? ⟨lb,lo+k*2+1,none⟩=some (.int .i64 N.links[k].2):=fun wr k hk hB=>by
  have e0:=hlx k hk 0 _ rfl
  have e1:=hlx k hk 1 _ rfl
  rw[Nat.add_zero] at e0
  exact⟨(hB.cell (World.block_lt_of_cell? w _ e0)).trans e0,(hB.cell (World.block_lt_of_cell? w _ e1)).trans e1⟩
 have hce:∀ (wr:World) (k:Nat) (hk:k<N.edges.length),Below w.heap.size w wr→(∀ j u,(fU N.edges[k])[j]?=some u→wr.cell? ⟨eb,eo+k*6+j,none⟩=some u):=fun wr k hk hB j u hu=>by
  have e0:=hex k hk j u hu
  exact(hB.cell (World.block_lt_of_cell? w _ e0)).trans e0
 have hx0:Box (w.alloc (.cells (dF N ⟨.slice la N.links.length lc,.slice ea N.edges.length ec,.slice aa N.accept.length ac⟩) 121)) w.heap.size #[.int .i64 N.states,.int .i64 0,.slice la N.links.length lc,.slice ea N.edges.length ec,.slice aa N.accept.length ac] 121:=hb0
 unfold dF at hB0 his hx0 ⊢
 dsimp only at hB0 his hx0 ⊢
 have HLI:=ah hli;have HED:=ah hed;have qX:=ah hcl;have Lu:=ah hce;have G5:=ah hla;have HEA:=ah hea;have HIS:=ah his;have HCO:=ah hco;have HB0:=ah hB0;have HX0:=ah hx0
 clear hli hed hcl hce hla hea his hco hB0 hx0 hb0 hlx hex h hw
 obtain⟨nl,hnl⟩:∃ nl,N.links.length=nl:=⟨_,rfl⟩
 obtain⟨ne,hne⟩:∃ ne,N.edges.length=ne:=⟨_,rfl⟩
 have EU:=ah hnl;have MJ:=ah hne
 rw[←hst] at *
 rw[hnl] at hlc HB0 HX0 HIS ⊢
 rw[hne] at hec HB0 HX0 HIS ⊢
 generalize N.states=st at *
 clear hnl hne hst
 have hd0:decide (0<st)=true:=decide_eq_true h0
 obtain⟨W0,hW0⟩:∃ W0,w.alloc (.cells #[.int .i64 st,.int .i64 0,.slice la nl lc,.slice ea ne ec,.slice aa st ac] 121)=W0:=⟨_,rfl⟩
 rw[hW0] at HB0 HX0
 have HW0:=ah hW0
 clear hW0
 have hdb:decide ((65536:Int)<(st:Int))=false:=decide_eq_false (by omega)
 have HI:Hid (∀ (u:World) (x:Nat),Box u w.heap.size #[.int .i64 st,.int .i64 0,.slice la nl lc,.slice ea ne ec,.slice aa st ac] 121→x<st→Calls Tryz.prog 193 #[.int .i64 x,.pointer (some ⟨w.heap.size,0,none⟩)] u fun e w'=>e=.returned (.bool true)∧w'=u):=ah fun u x hb hx=>by
  have:=HIS.out u x hb
  rwa[decide_eq_true hx] at this
 clear HIS hd0
 go_enter Tryz.func151,Tryz.ntmps151
 go_wp2_with (go_at_call 193;rw[HW0.out];refine(HI.out W0 0 HX0.out h0).mono ?_;rintro e w2 ⟨rfl,hww⟩;subst w2;have z0:W0.cell? ⟨w.heap.size,0,none⟩=some (.int .i64 st):=HX0.out.cell 0;have z2:W0.cell? ⟨w.heap.size,2,none⟩=some (.slice la nl lc):=HX0.out.cell 2;have z4:W0.cell? ⟨w.heap.size,4,none⟩=some (.slice aa st ac):=HX0.out.cell 4)
 go_loopw [30] (fun i wr=>∃ k:Nat,k≤nl∧i=.int .i64 k∧Below W0.heap.size W0 wr) (fun i _=>nl - (intOf i).toNat)
 case atStart=>exact⟨0,Nat.zero_le _,rfl,Below.refl _ _⟩
 case round =>
  clear z0 z2 z4
  obtain⟨k,hk,rfl,hB⟩:=hrel
  have hbx:=HX0.out.kept hB
  by_cases hlt:k<nl
  ·have hlk:k<N.links.length:=by rw[EU.out];exact hlt
   obtain rfl:=G5.out k hlk
   obtain⟨e0,e1⟩:=qX.out wr k hlk (HB0.out.trans (hB.mono HB0.out.size))
   obtain⟨q0,q1⟩:=HLI.out k hlk
   generalize N.links[k]=x at *
   obtain⟨x0,x1⟩:=x
   dsimp only at e0 e1 q0 q1
   have hbl:=World.block_lt_of_cell? wr _ e0
   have hB1:=aj wr (.cells #[.int .i64 x0,.int .i64 x1] 233)
   have dO:=hbx.kept hB1
   have Zq:=ah (HI.out _ x0 dO q0);have KT:=ah (HI.out _ x1 dO q1)
   clear hbx dO
   have hki:(k:Int)<(nl:Int):=by omega
   have hk0:(0:Int)≤(k:Int):=by omega
   go_wp2_with fail
   refine Zq.out.mono ?_
   rintro e w2 ⟨rfl,rfl⟩
   go_wp2_with fail
   refine KT.out.mono ?_
   rintro e w2 ⟨rfl,rfl⟩
   go_wp2
   exact⟨⟨k+1,hlt,by push_cast;rfl,hB.trans (hB1.mono hB.size)⟩,by simp[intOf];omega⟩
  ·obtain rfl:k=nl:=by omega
   have z3:wr.cell? ⟨w.heap.size,3,none⟩=some (.slice ea ne ec):=hbx.cell 3
   have z4:wr.cell? ⟨w.heap.size,4,none⟩=some (.slice aa st ac):=hbx.cell 4
   clear hbx
   go_wp2
   go_loopw [50] (fun i wr=>∃ k:Nat,k≤ne∧i=.int .i64 k∧Below W0.heap.size W0 wr) (fun i _=>ne - (intOf i).toNat)
   case atStart=>exact⟨0,Nat.zero_le _,rfl,hB⟩
   case round =>
    clear z3 z4 hB
    obtain⟨k,hk,rfl,hB⟩:=hrel
    have hbx:=HX0.out.kept hB
    by_cases hlt:k<ne
    ·have hlk:k<N.edges.length:=by rw[MJ.out];exact hlt
     obtain rfl:=HEA.out k hlk
     have hcc:=Lu.out wr k hlk (HB0.out.trans (hB.mono HB0.out.size))
     obtain⟨q0,q1⟩:=HED.out k hlk
     generalize N.edges[k]=x at *
     obtain⟨x0,s,x1⟩:=x
     dsimp only at q0 q1
     obtain⟨e0,e1,e2,e3,e4,e5⟩:=yt (P:=fun j u=>wr.cell? ⟨eb,eo+k*6+j,none⟩=some u) x0 s x1 hcc
     try dsimp only at e0 e1 e2 e3 e4 e5
     rw[Nat.add_zero] at e0
     clear hcc
     have hbl:=World.block_lt_of_cell? wr _ e0
     have hB1:=aj wr (.cells #[.int .i64 x0,.int .u64 (word s 0:Nat),.int .u64 (word s 1:Nat),.int .u64 (word s 2:Nat),.int .u64 (word s 3:Nat),.int .i64 x1] 240)
     have dO:=hbx.kept hB1
     have Zq:=ah (HI.out _ x0 dO q0);have KT:=ah (HI.out _ x1 dO q1)
     clear hbx dO
     have hki:(k:Int)<(ne:Int):=by omega
     have hk0:(0:Int)≤(k:Int):=by omega
     go_wp2_with fail
     refine Zq.out.mono ?_
     rintro e w2 ⟨rfl,rfl⟩
     go_wp2_with fail
     refine KT.out.mono ?_
     rintro e w2 ⟨rfl,rfl⟩
     go_wp2
     exact⟨⟨k+1,hlt,by push_cast;rfl,hB.trans (hB1.mono hB.size)⟩,by simp[intOf];omega⟩
    ·obtain rfl:k=ne:=by omega
     have z4:wr.cell? ⟨w.heap.size,4,none⟩=some (.slice aa st ac):=hbx.cell 4
     have hBw:=HB0.out.trans (hB.mono HB0.out.size)
     clear hbx
     go_wp2_with (go_at_call 194;go_must (refine(HCO.out wr hBw).mono ?_;rintro e w5 ⟨rfl,hb5⟩))
     go_ret
     exact⟨rfl,hBw.trans (hb5.mono hBw.size)⟩
end
section
open Go.RowKit
theorem adw(m lb eb:Nat)(kl ke:List (Int×Value))(va:Value)(N:Nf)(w:World)(hT:Tab w)(hM:vX w m lb eb kl ke va N)(h0:0<N.states) :
  Calls Tryz.prog 202 #[.pointer (some ⟨m,0,none⟩)] w (iU w 3 1 aO (fM N [0])):=by
 have x1:w.cell? ⟨m,1,none⟩=some (.int .i64 0):=hM.box.cell 1
 have hml:=hM.box.lt
 have hB0:=aj w (.cells #[.int .i64 0] 3)
 have hc:=Md m lb eb kl ke va N (some ⟨w.heap.size,0,none⟩) 1 1 [0] _ (hT.kept hB0) (hM.kept hB0) (pW w [0] (by simp)) (by simpa using h0)
 have HC:=ah hc
 clear hc hT hM
 go_enter Tryz.func202,Tryz.ntmps202
 go_wp2_with (go_at_call 242;go_must (refine HC.out.mono ?_;rintro e w2 ⟨a2,c2,rfl,ho2,hb2⟩))
 go_ret
 exact⟨a2,c2,rfl,ho2.mono hB0.size,hB0.trans (hb2.mono hB0.size)⟩
theorem Ya:(Tryz.prog.info? 119).map (fun i=>(i.zero,i.size))=some (some (.slice none 0 0),1):=by kernel_rfl
theorem MK(w:World):(zeroValue 119).run Tryz.prog w=.ok (.slice none 0 0) w:=(zero_of_info Ya).1 w
def iT(es:List (Nat×au×Nat))(b:Nat):List Nat:=(es.filter fun e=>mem e.2.1 b).map (·.2.2)
def nD(N:Nf)(l:List Nat)(b:Nat):List Nat:=l.flatMap fun s=>iT (N.out s) b
theorem U8(es:List (Nat×au×Nat))(b:Nat):(iT es b).length≤es.length:=by
 unfold iT;rw[List.length_map];exact List.length_filter_le _ _
theorem ML(N:Nf)(b:Nat):∀ l:List Nat,(nD N l b).length≤l.length*N.edges.length
 | []=>by simp[nD]
 | s::l=>by
  have h:=ML N b l
  have h1:=U8 (N.out s) b
  have h2:(N.out s).length≤N.edges.length:=List.length_filter_le _ _
  rw[List.length_cons,Nat.succ_mul]
  unfold nD at h ⊢
  rw[List.flatMap_cons,List.length_append];omega
theorem TI(es:List (Nat×au×Nat))(b k:Nat)(h:k<es.length):iT (es.take (k+1)) b=iT (es.take k) b++(if mem es[k].2.1 b=true then [es[k].2.2] else []):=by
 unfold iT
 rw[List.take_succ_eq_append_getElem h,List.filter_append,List.map_append]
 congr 1
 by_cases hm:mem es[k].2.1 b=true
 ·rw[if_pos hm];simp[hm]
 ·rw[if_neg hm];simp[hm]
theorem U9(N:Nf)(l:List Nat)(b k:Nat)(h:k<l.length):nD N (l.take (k+1)) b=nD N (l.take k) b++iT (N.out l[k]) b:=by
 unfold nD;rw[List.take_succ_eq_append_getElem h,List.flatMap_append];simp
theorem aaW{N:Nf}(h:N.wf)(l:List Nat)(b:Nat):∀ x∈nD N l b,x<N.states:=fun x hx=>by
 unfold nD iT at hx
 obtain⟨s,_,hx⟩:=List.mem_flatMap.1 hx
 obtain⟨e,he,rfl⟩:=List.mem_map.1 hx
 exact(h.edges e (List.mem_filter.1 (List.mem_filter.1 he).1).1).2
theorem aga(m lb eb:Nat)(kl ke:List (Int×Value))(va:Value)(N:Nf)(a:Option Addr)(n cap:Nat)(l:List Nat)(b:Nat)(w:World)(hT:Tab w)(hM:vX w m lb eb kl ke va N)(hl:ak w (.slice a n cap) 1 aO l)(hln:l.length≤65536)(hb:b<256) :
  Calls Tryz.prog 203 #[.pointer (some ⟨m,0,none⟩),.slice a n cap,.int .u8 b] w (iU w 3 1 aO (gZ N l b)):=by
 have hstep:gZ N l b=fM N (nD N l b):=rfl
 rw[hstep]
 obtain⟨amj,o,hn,hc,hc2,ha,hx⟩:=hl.dh
 have hnl:∀ k,(nD N (l.take k) b).length≤4294967296:=fun k=>by
  have h1:=ML N b (l.take k)
  have h2:(l.take k).length≤65536:=Nat.le_trans (List.length_take_le' _ _) hln
  have h3:=Nat.mul_le_mul h2 hM.aaE
  omega
 have hlt:=aaW hM.wf l b
 have aii:=fun(a':Option Addr) (q c:Nat) (u:World) (hu:Below w.heap.size w u) (hs:ak u (.slice a' q c) 1 aO (nD N l b))=>Md m lb eb kl ke va N a' q c (nD N l b) u (hT.kept hu) (hM.kept hu) hs hlt
 have hml:=hM.box.lt
 have hnc:n≤cap:=by omega
 have hn6:n≤65536:=by omega
 have HM:=ah hM;have HN:=ah hn;have HA:=ah ha;have HX:=ah hx;have EU:=ah hnl;have qX:=ah aii
 clear hM hT hl hn ha hx hnl aii hlt hc hln hstep
 go_enter Tryz.func203,Tryz.ntmps203
 go_wp2
 go_loopw [7,16] (fun v i wr=>∃ (k:Nat) (a':Option Addr) (q c:Nat),k≤n∧i=.int .i64 k∧v=.slice a' q c∧Own wr w.heap.size 3 1 aO (.slice a' q c) (nD N (l.take k) b)∧Below w.heap.size w wr) (fun _ i _=>n - (intOf i).toNat)
 case atStart=>exact⟨0,none,0,0,Nat.zero_le _,rfl,rfl,Own.nil _ _ _ _ _,Below.refl _ _⟩
 case round =>
  obtain⟨k,a',q,c,hk,rfl,rfl,hown,hB⟩:=hrel
  by_cases hlt:k<n
  ·have hlk:k<l.length:=by rw[←HN.out];exact hlt
   obtain rfl:=HA.out k hlk
   have c0:=HX.out k hlk wr hB
   have hbl:=World.block_lt_of_cell? wr _ c0
   have hnt:=U9 N l b k hlk
   have adx:=EU.out (k+1)
   rw[hnt,List.length_append] at adx
   have hMr:=HM.out.kept hB
   have x3:wr.cell? ⟨m,3,none⟩=some (.map (some eb)):=hMr.box.cell 3
   have aij:=hMr.box.lt
   have ady:=lF hMr.me zM Tryz.underlying244 (MK _) ((l[k]:Nat):Int)
   obtain⟨ga,gc,hgl,hgs⟩:=HM.out.out l[k]
   rw[hgl] at ady
   obtain⟨gb,go,adl,hgc,ame,hga,hgx⟩:=hgs.open
   generalize l[k]=s at *
   have het:=fun j=>TI (N.out s) b j
   have hel:∀ j,(iT ((N.out s).take j) b).length≤(iT (N.out s) b).length:=fun j=>by
    unfold iT
    rw[List.length_map,List.length_map]
    exact List.Sublist.length_le (List.Sublist.filter _ (List.take_sublist _ _))
   have hall:iT ((N.out s).take (N.out s).length) b=iT (N.out s) b:=by rw[List.take_length]
   have HNT:=ah hnt;have HGA:=ah hga;have HGX:=ah hgx;have HET:=ah het;have HEL:=ah hel;have GX:=ah hall
   clear hnt hga hgx het hel hall adl hgl hgs hMr
   generalize nD N (l.take k) b=ys at *
   generalize N.out s=es at *
   obtain⟨ne,hne⟩:∃ ne,es.length=ne:=⟨_,rfl⟩
   have MJ:=ah hne
   rw[hne] at hgc ady
   have hyb:ys.length+(iT es b).length≤4294967296:=by omega
   have HYB:=ah hyb
   clear hne adx hyb
   have hki:(k:Int)<(n:Int):=by omega
   have hk0:(0:Int)≤(k:Int):=by omega
   go_wp2
   clear ady c0 x3 hbl aij
   go_loopw [7,27] (fun v i wr=>∃ (j:Nat) (a':Option Addr) (q c:Nat),j≤ne∧i=.int .i64 j∧v=.slice a' q c∧Own wr w.heap.size 3 1 aO (.slice a' q c) (ys++iT (es.take j) b)∧Below w.heap.size w wr) (fun _ i _=>ne - (intOf i).toNat)
   case atStart=>exact⟨0,a',q,c,Nat.zero_le _,rfl,rfl,by rw[List.take_zero,show iT [] b=[] from rfl,List.append_nil];exact hown,hB⟩
   case round =>
    clear hown hB
    obtain⟨j,a',q,c,hj,rfl,rfl,hown,hB⟩:=hrel
    by_cases hlt2:j<ne
    ·have hje:j<es.length:=by rw[MJ.out];exact hlt2
     obtain rfl:=HGA.out j hje
     have hcc:∀ i u,(fU es[j])[i]?=some u→wr.cell? ⟨gb,go+j*6+i,none⟩=some u:=fun i u hu=>by
      have e0:=HGX.out j hje i u hu
      exact(hB.cell (World.block_lt_of_cell? w _ e0)).trans e0
     have het:=HET.out j hje
     have hyl:=HEL.out j
     have hyb:=HYB.out
     generalize es[j]=x at *
     obtain⟨x0,st,x1⟩:=x
     dsimp only at het
     obtain⟨e0,e1,e2,e3,e4,e5⟩:=yt (P:=fun i u=>wr.cell? ⟨gb,go+j*6+i,none⟩=some u) x0 st x1 hcc
     rw[Nat.add_zero] at e0
     have hbl:=World.block_lt_of_cell? wr _ e0
     have hB1:=aj wr (.cells #[.int .i64 x0,.int .u64 (word st 0:Nat),.int .u64 (word st 1:Nat),.int .u64 (word st 2:Nat),.int .u64 (word st 3:Nat),.int .i64 x1] 240)
     have hx1:=Box.new wr #[.int .i64 x0,.int .u64 (word st 0:Nat),.int .u64 (word st 1:Nat),.int .u64 (word st 2:Nat),.int .u64 (word st 3:Nat),.int .i64 x1] 240
     have hown1:=hown.kept hB1
     have hB2:=hB.trans (hB1.mono hB.size)
     have hhas:=Ji st b (wr.alloc (.cells #[.int .i64 x0,.int .u64 (word st 0:Nat),.int .u64 (word st 1:Nat),.int .u64 (word st 2:Nat),.int .u64 (word st 3:Nat),.int .i64 x1] 240)) hb
     have HH:=ah hhas;have NY:=ah het
     clear hcc hown hB hhas het
     have hjn:(j:Int)<(ne:Int):=by omega
     have hj0:(0:Int)≤(j:Int):=by omega
     cases hm:mem st b with
     | false =>
      rw[hm] at HH NY
      have JJ:=NY.out
      rw[if_neg (by simp),List.append_nil] at JJ
      have HE2:=ah JJ
      clear hm JJ NY
      go_wp2_with (go_at_call 200;go_must (refine HH.out.mono ?_;rintro e w2 ⟨rfl,hb2⟩))
      exact⟨⟨j+1,a',q,c,hlt2,by push_cast;rfl,rfl,by rw[HE2.out];exact hown1.kept hb2,hB2.trans (hb2.mono hB2.size)⟩,by simp[intOf];omega⟩
     | true =>
      rw[hm] at HH NY
      have JJ:=NY.out
      rw[if_pos rfl] at JJ
      obtain⟨zs,hzs⟩:∃ zs,ys++iT (es.take j) b=zs:=⟨_,rfl⟩
      have hzl:zs.length≤4294967296:=by rw[←hzs,List.length_append];omega
      have hze:ys++iT (es.take (j+1)) b=zs++[x1]:=by rw[JJ,←List.append_assoc,hzs]
      rw[hzs] at hown1
      have HZ:=ah hze
      clear hm JJ NY hzs hyl hyb hze
      go_wp2_with (first | (go_at_call 200;go_must (refine HH.out.mono ?_;rintro e w2 ⟨rfl,hb2⟩;have hx2:=hx1.kept hb2;have y5:w2.cell? ⟨wr.heap.size,5,none⟩=some (.int .i64 x1):=hx2.cell 5;have hown2:=hown1.kept hb2;have hB3:=hB2.trans (hb2.mono hB2.size);have hB4:=hB3.alloc hB3.size (.cells #[.int .i64 x1] 3))) | (at_builtin;go_must (refine fJ rfl _ _ 24 rfl jg dN rfl (hown2.alloc _) ⟨w2.heap.size,0,none⟩ 1 x1 rfl (dD w2 [.int .i64 x1] _) (by simp only[maxLen];omega) (by omega) (by have:=hB3.size;simp only[World.size_alloc];omega) ?_;intro a7 c7 w7 iI dn)))
      exact⟨⟨j+1,a7,_,c7,hlt2,by push_cast;rfl,rfl,by rw[HZ.out];exact iI,below_grown hB4 (hown2.alloc _) dn (Nat.le_refl _) hB4.size⟩,by simp[intOf];omega⟩
    ·obtain rfl:j=ne:=by omega
     rw[←MJ.out,GX.out] at hown
     go_wp2
     exact⟨⟨k+1,a',q,c,hlt,by push_cast;rfl,rfl,by rw[HNT.out];exact hown,hB⟩,by simp[intOf];omega⟩
  ·obtain rfl:k=n:=by omega
   rw[HN.out,List.take_length] at hown
   have hcl:=qX.out a' q c wr hB (hown.slice dN)
   have IY:=ah hcl
   clear hcl hown
   go_wp2_with (go_at_call 242;go_must (refine IY.out.mono ?_;rintro e w5 ⟨a5,c5,rfl,BM,hb5⟩))
   go_ret
   exact⟨a5,c5,rfl,BM.mono hB.size,hB.trans (hb5.mono hB.size)⟩
end
section
open Go.RowKit
def lC(f:Nat→Bool):Array Value:=((List.range 65).map fun i=>Value.bool (f i)).toArray
theorem wC(f:Nat→Bool):(lC f).size=65:=by simp[lC]
theorem BN(f:Nat→Bool)(i:Nat)(h:i<65):(lC f)[i]?=some (.bool (f i)):=by simp[lC,h]
theorem Va{f g:Nat→Bool}(h:∀ i,i<65→f i=g i):lC f=lC g:=by
 unfold lC;congr 1
 exact List.map_congr_left fun i hi=>by rw[h i (by simpa using hi)]
theorem aaX(f:Nat→Bool)(k:Nat):(lC f).setIfInBounds k (.bool true)=lC (fun i=>f i||k==i):=by
 apply Array.ext_getElem?
 intro i
 rw[Array.getElem?_setIfInBounds]
 by_cases hi:i<65
 ·rw[BN _ i hi,BN _ i hi,wC]
  by_cases hk:k=i
  ·subst hk;simp[hi]
  ·simp[hk]
 ·have h1:(lC fun i=>f i||k==i)[i]?=none:=by rw[Array.getElem?_eq_none];rw[wC];omega
  have h2:(lC f)[i]?=none:=by rw[Array.getElem?_eq_none];rw[wC];omega
  rw[h1,h2,wC]
  by_cases hk:k=i
  ·simp[hk,hi]
  ·simp[hk]
theorem Wj:(Tryz.prog.info? 242).map (fun i=>(i.zero,i.size))=some (some (.agg (lC fun _=>false)),65):=by kernel_rfl
theorem adz(w:World):(zeroValue 242).run Tryz.prog w=.ok (.agg (lC fun _=>false)) w:=(zero_of_info Wj).1 w
theorem agb(f:Nat→Bool):(Tryz.prog.info? 242).map (·.size)=some (lC f).size:=by rw[wC];exact(zero_of_info Wj).2
theorem adA(f:Nat→Bool)(k:Nat)(h:k<65)(w:World):(Instr.index 242 (.agg (lC f)) (.int .i64 (k:Nat))).run Tryz.prog w=.ok (.bool (f k)) w:=by
 have hg:=BN f k h
 have h1:(k:Int)<65:=by omega
 simp[Instr.index,run_underlying Tryz.underlying242,asIntOf,part,isAgg,run_underlying Tryz.underlying4,hg]
 intro h2
 omega
attribute [irreducible] lC
theorem ajZ(m lb eb s:Nat)(kl ke:List (Int×Value))(va:Value)(N:Nf)(w:World)(hM:vX w m lb eb kl ke va N)(hs:s<N.states):Calls Tryz.prog 157 #[.pointer (some ⟨m,0,none⟩),.int .i64 s] w fun e w'=>e=.returned (.bool true)∧w'=w:=by
 have x0:w.cell? ⟨m,0,none⟩=some (.int .i64 N.states):=hM.box.cell 0
 have h1:decide ((0:Int)≤(s:Int))=true:=by simp
 have h2:decide ((s:Int)<(N.states:Int))=true:=by simp;omega
 clear hM
 generalize N.states=n at *
 go_enter Tryz.func157,Tryz.ntmps157
 go_wp2
 go_ret
 exact⟨rfl,rfl⟩
def lD(N:Nf)(l:List Nat)(k:Nat):Bool:=l.any fun s=>N.accept.getD s 0==k
def oK(N:Nf)(l:List Nat)(j:Nat):List Nat:=(List.range j).filter fun k=>decide (0<k)&&lD N l k
theorem Yb(N:Nf)(l:List Nat)(i k:Nat)(h:i<l.length):lD N (l.take (i+1)) k=(lD N (l.take i) k||N.accept.getD l[i] 0==k):=by
 unfold lD;rw[List.take_succ_eq_append_getElem h,List.any_append];simp
theorem TJ(N:Nf)(l:List Nat)(j:Nat):oK N l (j+1)=oK N l j++(if (decide (0<j)&&lD N l j)=true then [j] else []):=by
 unfold oK
 rw[List.range_succ,List.filter_append]
 congr 1
 by_cases h:(decide (0<j)&&lD N l j)=true
 ·rw[if_pos h];simp[h]
 ·rw[if_neg h];simp[h]
theorem IZ(N:Nf)(l:List Nat)(j:Nat):(oK N l j).length≤j:=by
 have:=List.length_filter_le (fun k=>decide (0<k)&&lD N l k) (List.range j)
 simpa [oK] using this
theorem aaY(m lb eb:Nat)(kl ke:List (Int×Value))(va:Value)(N:Nf)(a:Option Addr)(n cap:Nat)(l:List Nat)(w:World)(hM:vX w m lb eb kl ke va N)(hl:ak w (.slice a n cap) 1 aO l)(hs:∀ x∈l,x<N.states) :
  Calls Tryz.prog 111 #[.pointer (some ⟨m,0,none⟩),.slice a n cap] w (iU w 3 1 aO (oK N l 65)):=by
 obtain⟨amj,o,hn,hc,hc2,ha,hx⟩:=hl.dh
 obtain⟨aa,ac,hva⟩:=hM.ac.form
 have hML:=fun u hu s hs=>ajZ m lb eb s kl ke va N u (hM.kept hu) hs
 have hac:=hM.ac
 rw[hva] at hac
 obtain⟨ab,ao,hal,amk,ap9,haa,hax⟩:=hac.dh
 have hst:=hM.wf.st
 have hle:=hM.wf.accept
 have hz:=adz
 have hml:=hM.box.lt
 have hbx:Box w m #[.int .i64 N.states,.int .i64 0,.map (some lb),.map (some eb),.slice aa N.accept.length ac] 246:=by rw[←hva];exact hM.box
 have hnc:n≤cap:=by omega
 have HN:=ah hn;have HA:=ah ha;have HX:=ah hx;have HIS:=ah hML;have HS:=ah hs;have HAA:=ah haa;have HAX:=ah hax;have HST:=ah hst;have Vx:=ah hle;have EW:=ah hbx
 obtain⟨na,hna⟩:∃ na,N.accept.length=na:=⟨_,rfl⟩
 rw[hna] at EW amk
 have oZ:=ah hna
 clear hna hn ha hx hML hs haa hax hst hle hbx hM hl hac hal hva hc
 go_enter Tryz.func111,Tryz.ntmps111
 go_wp2
 have hb0:=Box.new w (lC fun _=>false) 242
 have hB0:=aj w (.cells (lC fun _=>false) 242)
 go_loopw [15] (fun i wr=>∃ k:Nat,k≤n∧i=.int .i64 k∧Box wr w.heap.size (lC (lD N (l.take k))) 242∧Below w.heap.size w wr) (fun i _=>n - (intOf i).toNat)
 case atStart=>exact⟨0,Nat.zero_le _,rfl,by rw[show lD N (l.take 0)=fun _=>false from by funext k;simp[lD]];exact hb0,hB0⟩
 case round =>
  clear hb0 hB0 hz
  obtain⟨k,hk,rfl,hbs,hB⟩:=hrel
  by_cases hlt:k<n
  ·have hlk:k<l.length:=by rw[←HN.out];exact hlt
   obtain rfl:=HA.out k hlk
   have c0:=HX.out k hlk wr hB
   have hbl:=World.block_lt_of_cell? wr _ c0
   have hsk:=HS.out _ (List.getElem_mem hlk)
   have hst:=fun i=>Yb N l k i hlk
   have his:=HIS.out wr hB l[k] hsk
   have hsa:l[k]<N.accept.length:=by rw[←HST.out];exact hsk
   have hsn:l[k]<na:=by rw[←oZ.out];exact hsa
   obtain rfl:=HAA.out _ hsa
   have c1:=HAX.out _ hsa wr hB
   have hk4:N.accept[l[k]]≤64:=Vx.out _ (List.getElem_mem hsa)
   have hgd:N.accept.getD l[k] 0=N.accept[l[k]]:=by rw[List.getD_eq_getElem?_getD,List.getElem?_eq_getElem hsa];rfl
   simp only[hgd] at hst
   generalize N.accept[l[k]]=y at *
   generalize l[k]=s at *
   have Gm:=World.block_lt_of_cell? wr _ c1
   have hmx:=EW.out.kept hB
   have x4:wr.cell? ⟨m,4,none⟩=some (.slice (some ⟨ab,ao,none⟩) na ac):=hmx.cell 4
   have aij:=hmx.lt
   have y0:wr.cell? ⟨w.heap.size,y,none⟩=some (.bool (lD N (l.take k) y)):=(hbs.cell y).trans (BN _ y (by omega))
   have f0:=hbs.free y
   have hset:=hbs.set y (.bool true)
   rw[aaX] at hset
   have HI:=ah his;have aml:=ah hst;have yR:=ah hset
   clear his hst hset hsk hsa hgd hmx hbs
   have hki:(k:Int)<(n:Int):=by omega
   have hk0:(0:Int)≤(k:Int):=by omega
   have aqa:(y:Int)<65:=by omega
   have aqb:(s:Int)<(na:Int):=by omega
   go_wp2_with (go_at_call 157;go_must (refine HI.out.mono ?_;rintro e w2 ⟨rfl,rfl⟩))
   exact⟨⟨k+1,hlt,by push_cast;rfl,by rw[Va fun i _=>aml.out i];exact yR.out,hB.setCell (Nat.le_refl _) _⟩,by simp[intOf];omega⟩
  ·obtain rfl:k=n:=by omega
   rw[HN.out,List.take_length] at hbs
   have hsize:=agb (lD N l)
   go_wp2_with (refine wpList_load_row rfl 242 (.tmp 5) rfl _ rfl _ _ _ _ hbs Tryz.underlying242 rfl hsize ?_)
   clear hsize hbs
   go_loopw [8,32] (fun v i wr=>∃ (j:Nat) (a':Option Addr) (q c:Nat),j≤65∧i=.int .i64 j∧v=.slice a' q c∧Own wr w.heap.size 3 1 aO (.slice a' q c) (oK N l j)∧Below w.heap.size w wr) (fun _ i _=>65 - (intOf i).toNat)
   case atStart=>exact⟨0,none,0,0,Nat.zero_le _,rfl,rfl,Own.nil _ _ _ _ _,hB⟩
   case round =>
    clear hB
    obtain⟨j,a',q,c,hj,rfl,rfl,hown,hB⟩:=hrel
    by_cases hlt:j<65
    ·have hix:=adA (lD N l) j hlt wr
     have hls:=TJ N l j
     have hll:=IZ N l j
     have aqc:(j:Int)<65:=by omega
     have hj0:(0:Int)≤(j:Int):=by omega
     generalize oK N l j=ys at *
     cases hp:(decide (0<j)&&lD N l j) with
     | false =>
      rw[hp,if_neg (by simp),List.append_nil] at hls
      have HLS:=ah hls
      clear hls
      have hcase:lD N l j=false∨(lD N l j=true∧j=0):=by
       cases hq:lD N l j with
       | false=>exact .inl rfl
       | true=>rw[hq] at hp;simp at hp;exact .inr ⟨rfl,hp⟩
      clear hp
      rcases hcase with hq | ⟨hq,hjz⟩
      ·rw[hq] at hix
       go_wp2
       exact⟨⟨j+1,a',q,c,hlt,by push_cast;rfl,rfl,by rw[HLS.out];exact hown,hB⟩,by simp[intOf];omega⟩
      ·rw[hq] at hix
       have hjn:(j:Int)≤0:=by omega
       clear hjz
       go_wp2
       exact⟨⟨j+1,a',q,c,hlt,by push_cast;rfl,rfl,by rw[HLS.out];exact hown,hB⟩,by simp[intOf];omega⟩
     | true =>
      rw[hp,if_pos rfl] at hls
      have HLS:=ah hls
      clear hls
      simp only[Bool.and_eq_true,decide_eq_true_eq] at hp
      obtain⟨hp0,hq⟩:=hp
      rw[hq] at hix
      have hpi:(0:Int)<(j:Int):=by omega
      go_wp2_with (at_builtin;go_must (refine fJ rfl _ _ 24 rfl jg dN rfl (hown.alloc _) ⟨wr.heap.size,0,none⟩ 1 j rfl (dD wr [.int .i64 j] _) (by simp only[maxLen];omega) (by omega) (by have:=hB.size;simp only[World.size_alloc];omega) ?_;intro a7 c7 w7 iI dn))
      have hB4:=hB.alloc hB.size (.cells #[.int .i64 j] 3)
      exact⟨⟨j+1,a7,_,c7,hlt,by push_cast;rfl,rfl,by rw[HLS.out];exact iI,below_grown hB4 (hown.alloc _) dn (Nat.le_refl _) hB4.size⟩,by simp[intOf];omega⟩
    ·obtain rfl:j=65:=by omega
     have hq:=hown.open.1
     go_wp2
     go_ret
     subst hq
     exact⟨a',c,rfl,hown,hB⟩
end
section
open Go.RowKit
theorem TL(l:List Nat):(l.map fun k:Nat=>(k:Int)).map (Value.int .i64)=l.flatMap aO:=by
 induction l with
 | nil=>rfl
 | cons x l ih=>rw[List.map_cons,List.map_cons,ih,List.flatMap_cons];rfl
theorem Yc(l:List Nat)(a:Option Addr)(n cap:Nat)(w:World)(h:ak w (.slice a n cap) 1 aO l)(h0:0<l.length)(hl:l.length≤1099511627776) :
  Calls Tryz.prog 87 #[.slice a n cap] w fun e w'=>∃ a' c',e=.returned (.slice a' n c')∧ak w' (.slice a' n c') 1 aO l∧Below w.heap.size w w':=by
 obtain⟨b,o,hn,hc,hc2,ha,hx⟩:=h.dh
 obtain rfl:=ha 0 h0
 subst hn
 have:=Tryz.slices_Clone_int b o l.length cap (l.map fun k:Nat=>(k:Int)) w (by simp) (by omega) (fun j hj=>by
  have hj2:j<l.length:=by simpa using hj
  rw[hx j hj2 w (Below.refl _ _)]
  simp[List.getD,hj2])
 refine this.mono fun e w' he=>?_
 obtain⟨v',rfl,hr,hv,hB⟩:=he
 rw[List.take_of_length_le (by simp),TL] at hr
 have ho:Own w' w.heap.size 3 1 aO v' l:=Own.ofRow hr dN
 obtain⟨a',c',rfl⟩:=ho.form
 exact⟨a',c',rfl,ho.slice dN,hB⟩
end
end Go.Proofs.YtengfapcaaacaaaGreatDoor
