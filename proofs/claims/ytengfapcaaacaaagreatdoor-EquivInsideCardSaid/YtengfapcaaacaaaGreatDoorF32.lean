/- The texts of E32, in few letters (mini.py). -/
import Derived.Test.YtengfapcaaacaaaGreatDoorF31
set_option linter.unusedVariables false
set_option linter.unusedSimpArgs false
set_option maxRecDepth 20000
set_option maxHeartbeats 6400000
namespace Go.Proofs.YtengfapcaaacaaaGreatDoor
section
open Go.RowKit
def Uu(l:List ((Nat×Nat)×Int×Nat)):List ((Nat×Nat)×Value):=l.map fun x=>(x.1,Value.bool true)
theorem Gu(q:Nat×Nat):∀ l:List ((Nat×Nat)×Int×Nat),look q (Uu l)=if q∈l.map (·.1) then some (.bool true) else none
 | []=>rfl
 | x::l=>by
  show(if q=x.1 then some (Value.bool true) else look q (Uu l))=_
  rw[Gu q l]
  by_cases h:q=x.1
  ·rw[if_pos h]
   have:q∈(x::l).map (·.1):=by rw[h];exact List.mem_cons_self ..
   rw[if_pos this]
  ·rw[if_neg h]
   by_cases h2:q∈l.map (·.1)
   ·have:q∈(x::l).map (·.1):=List.mem_cons_of_mem _ h2
    rw[if_pos h2,if_pos this]
   ·have:¬ q∈(x::l).map (·.1):=fun hm=>(List.mem_cons.1 hm).elim h h2
    rw[if_neg h2,if_neg this]
theorem ahp:(Tryz.prog.info? 140).map (fun i=>(i.size,i.bytes,i.zero))=some (2,16,some (.agg #[.int .i64 0,.int .i64 0])):=by kernel_rfl
theorem ahq:dI Tryz.prog 142 140 (.agg #[.int .i64 0,.int .i64 0]) 2 16:=⟨Tryz.underlying142,by
 have:=ahp
 cases h:Tryz.prog.info? 140 with
 | none=>rw[h] at this;cases this
 | some i=>rw[h] at this;simp at this;exact⟨i,rfl,this.2.2,this.1,this.2.1⟩,rfl,by decide⟩
theorem Ze(w:World):(zeroValue 4).run Tryz.prog w=.ok (.bool false) w:=by
 have h:(Tryz.prog.info? 4).map (fun i=>(i.zero,i.size))=some (some (.bool false),1):=by kernel_rfl
 exact(zero_of_info h).1 w
structure uw(w:World)(base mb:Nat)(l:List ((Nat×Nat)×Int×Nat))(v:Value):Prop where
 ws:Own w base 140 2 Eb v (l.map (·.1))
 mp:aP w mb zu (Uu l)
section
variable {w w':World} {base mb:Nat} {l:List ((Nat×Nat)×Int×Nat)} {v:Value}
theorem uw.kept(h:uw w base mb l v)(hb:Below w.heap.size w w'):uw w' base mb l v:=⟨h.ws.kept hb,h.mp.kept hb⟩
theorem uw.ne(h:uw w base mb l v)(g:Nat)(hg:v.ownBlock=some g):g≠mb:=by
 obtain⟨_,c,hb⟩:=h.ws.block g hg
 obtain⟨es,cl,hm,_⟩:=h.mp
 rintro rfl
 rw[show w.heap[g]?=_ from hb] at hm
 cases hm
theorem uw.form(h:uw w base mb l v):∃ a c,v=.slice a l.length c:=by
 obtain⟨a,c,e⟩:=h.ws.form
 rw[List.length_map] at e
 exact⟨a,c,e⟩
theorem uw.cells(h:uw w base mb l v){i:Nat}(hi:i<l.length):∃ g c,v=.slice (some ⟨g,0,none⟩) l.length c∧l.length≤c∧c≤9223372036854775807∧g<w.heap.size∧w.cell? ⟨g,i*2,none⟩=some (.int .i64 ((l[i]).1.1:Nat))∧w.cell? ⟨g,i*2+1,none⟩=some (.int .i64 ((l[i]).1.2:Nat)):=by
 have hlm:(l.map (·.1)).length=l.length:=List.length_map ..
 obtain⟨a,c,hv⟩:=h.ws.form
 have ho:=h.ws
 subst hv
 obtain⟨e,e1,e2,g,cur,ha,hx⟩:=ho.open
 obtain⟨_,hb,_,hc⟩:=hx (by omega)
 have q0:=hc i (by omega) 0 (by decide)
 have q1:=hc i (by omega) 1 (by decide)
 simp only[List.getElem_map] at q0 q1
 exact⟨g,c,by rw[ha i (by omega),hlm],by omega,e2,hb.lt,(hb.cell _).trans (by rw[Nat.add_zero] at q0;rw[q0];rfl),(hb.cell _).trans (by rw[q1];rfl)⟩
end
theorem ahr(VA VB:aA)(A B:aQ)(w:World)(hA:aZ w VA A)(hB:aZ w VB B)(wA:gQ A)(wB:gQ B)(hT:Tab w)(F p1 p2:Nat)(hEn:Enters Tryz.prog F)(bad:Nat×Nat→Bool)
  (hby:∀ u:World,Below w.heap.size w u→∀ s t,s<A.label.length→t<B.label.length→Calls Tryz.prog F #[.int .i64 s,.int .i64 t,.pointer (some ⟨p1,0,none⟩),.pointer (some ⟨p2,0,none⟩)] u (bF u (.bool (bad (s,t))))) :
  Calls Tryz.prog 44 #[.agg VA.cells,.agg VB.cells,.func (.func F) #[] #[.pointer (some ⟨p1,0,none⟩),.pointer (some ⟨p2,0,none⟩)]] w (bF w (.bool (vN bad (fZ A B)))):=by
 obtain⟨n,Xd,lbA,loA,Xe,Xf,Xg,Xh,rcA,mA⟩:=machC hA wA
 obtain⟨m',Xi,lbB,loB,Xj,Xk,Xl,Xm,rcB,mB⟩:=machC hB wB
 have HNC:Hid (∀ u,Below w.heap.size w u→Calls Tryz.prog 38 #[.agg VA.cells,.agg VB.cells] u (MH u VA VB)):=ah fun u hu=>Dp VA VB u (hT.kept hu) (by rw[mA.ln];exact mA.Ll.2) (by rw[mB.ln];exact mB.Ll.2) mA.lc.2 mB.lc.2
 have xA:=(Box.new w VA.cells 27).alloc (.cells VB.cells 27)
 have xB:=Box.new' (World.size_alloc w (.cells VA.cells 27)).symm VB.cells 27
 have hb0:=(aj w (.cells VA.cells 27)).alloc (aj w (.cells VA.cells 27)).size (.cells VB.cells 27)
 have HAT:=ah (wJ.start wA wB)
 have F8:=ah (fun(f i:Nat) (l:List ((Nat×Nat)×Int×Nat)) (h:wJ A B f i l) (hi:i<l.length)=>h.next wA wB hi)
 have qC:=ah (fun(l:List ((Nat×Nat)×Int×Nat)) (i:Nat) (hi:i<l.length) (h:jw (fP A B) (eU A.of B.of) (Bo A B) l) (cs:List Nat) (hcs:∀ c∈cs,c∈eU A.of B.of)=>Jv wA wB hi h cs hcs)
 have hbig:A.label.length*B.label.length≤4294967296:=Nat.mul_le_mul wA.le wB.le
 have hle:=Dh A.of B.of
 have yR:=ah (And.intro hA.1 hB.1)
 have HEN:=ah hEn;have OD:=ah hby;have MA:=ah mA;have MB:=ah mB
 have HV:Hid (∀ u,Below w.heap.size w u→True):=ah fun _ _=>trivial
 obtain⟨N,hN⟩:∃ N,A.label.length*B.label.length=N:=⟨_,rfl⟩
 have HN:=ah hN
 rw[hN] at HAT hbig
 obtain⟨L,hL⟩:∃ L,eU A.of B.of=L:=⟨_,rfl⟩
 rw[hL] at hle
 have HL:=ah hL;have KA:=ah hle
 clear hA hB wA wB hT hEn hby mA mB hN hL hle
 go_enter Tryz.func44,Tryz.ntmps44
 go_wp2_with (first | (refine ak (by rfl) 27 _ rfl w.heap.size rfl _ _ _ _ xA Tryz.underlying27 rfl (ay _) ?_) | (refine ak (by rfl) 27 _ rfl (w.heap.size+1) rfl _ _ _ _ xB Tryz.underlying27 rfl (ay _) ?_))
 refine(HNC.out _ hb0).mono ?_
 rintro e w2 ⟨cb,ub,tb,la,lc,rfl,hC,hO,hb2,g1,g2,g3⟩
 rw[yR.out.1,yR.out.2,HL.out] at hC hO
 have hB2:=hb0.trans (hb2.mono hb0.size)
 have HXX:=ah (fun(u:World) (hu:Below w2.heap.size w2 u)=>And.intro ((xA.kept hb2).kept hu) ((xB.kept hb2).kept hu))
 obtain⟨_,lc1,lc2,lb,cur,hla,hlx⟩:=hO.open
 have TU:Hid (∀ k (h:k<L.length),la=some ⟨lb,0,none⟩∧∀ u,Below w2.heap.size w2 u→u.cell? ⟨lb,k,none⟩=some (.int .u8 (L[k]:Nat))):=ah fun k h=>⟨hla k h,fun u hu=>by
  obtain⟨_,hb,_,hc⟩:=hlx (by omega)
  have:=hc k h 0 (by decide)
  rw[Nat.mul_one,Nat.add_zero] at this
  rw[(hb.kept hu).cell,this];rfl⟩
 have HCB:Hid (∀ u,Below w2.heap.size w2 u→u.cell? ⟨cb,520,none⟩=some (.slice la L.length lc)):=ah fun u hu=>by
  obtain⟨_,_,_,hb,_⟩:=hC.box
  exact(hb.kept hu).EH 0
 have HB2:=ah hB2
 clear hC hO hlx hla xA xB hb0 hb2 hB2 g1 g2 g3
 have hmb:=aP.new w2 zu
 obtain⟨w4,hput,hm4,qF,BO,wU⟩:=hmb.nD JK Tryz.underlying141 (0,0) (.bool true)
 have Zf:(Instr.mapUpdate 141 (.map (some w2.heap.size)) (.agg #[.int .i64 0,.int .i64 0]) (.bool true)).run Tryz.prog (w2.alloc (.map #[] 0))=.ok () w4:=hput
 have hmk:(Instr.makeMap 141 none).run Tryz.prog w2=.ok (.map (some w2.heap.size)) (w2.alloc (.map #[] 0)):=rfl
 obtain⟨mb,Uw⟩:∃ mb,w2.heap.size=mb:=⟨_,rfl⟩
 have hw4:w4.heap.size=mb+1:=by rw[BO,World.size_alloc,Uw]
 have hB4:Below w2.heap.size w2 w4:=(aj w2 _).trans (wU _ (Nat.le_refl _))
 have akn:aP w4 mb zu (Uu yE):=by rw[←Uw];exact hm4
 have ho:Own (w4.alloc (.cells #[.int .i64 0,.int .i64 0] 140)) mb 140 2 Eb (.slice (some ⟨w4.heap.size,0,none⟩) 1 1) [(0,0)]:=G7 uD (0,0) _ rfl _ (Box.new w4 _ _) (by omega)
 have HST:Hid (uw (w4.alloc (.cells #[.int .i64 0,.int .i64 0] 140)) mb mb yE (.slice (some ⟨w4.heap.size,0,none⟩) 1 1)∧Below w2.heap.size w2 (w4.alloc (.cells #[.int .i64 0,.int .i64 0] 140))):=ah ⟨⟨ho,akn.alloc _⟩,hB4.alloc hB4.size _⟩
 have HMB:=ah Uw
 rw[Uw] at hmk Zf
 clear hmb hm4 qF BO wU akn ho hB4 hw4 Uw
 go_wp2_with fail
 clear hmk Zf
 obtain⟨len,hlen⟩:∃ len,L.length=len:=⟨_,rfl⟩
 have HLEN:=ah hlen
 rw[hlen] at lc1 HCB
 clear hlen
 go_loopw [9,10] (fun v9 v10 wr=>∃ (f i:Nat) (l:List ((Nat×Nat)×Int×Nat)),wJ A B f i l∧v10=.int .i64 i∧uw wr mb mb l v9∧Below w2.heap.size w2 wr∧∀ j (hj:j<l.length),j<i→bad (l[j]).1=false) (fun _ v10 _=>N+1 - (intOf v10).toNat)
 case atStart=>exact⟨_,0,yE,HAT.out,rfl,HST.out.1,HST.out.2,fun j _ h=>absurd h (Nat.not_lt_zero _)⟩
 case round =>
  obtain⟨f,i,l,hQ,rfl,hM,hB,hall⟩:=hrel
  have hlN:=hQ.len
  rw[HN.out] at hlN
  obtain⟨a1,c1,rfl⟩:=hM.form
  by_cases hlt:i<l.length
  ·obtain⟨x,y,hxy,hok⟩:∃ x y,(l[i]).1=(x,y)∧Bo A B (x,y):=⟨_,_,rfl,hQ.good.ok _ (List.getElem_mem hlt)⟩
   have h1:x<n:=by have:=hok.1;rwa[MA.out.nl] at this
   have h2:y<m':=by have:=hok.2;rwa[MB.out.nl] at this
   obtain⟨g,cg,hsl,hgc,ad7,hgl,r0,r1⟩:=hM.cells hlt
   rw[hxy] at r0 r1
   obtain⟨rfl,_,rfl⟩:=Value.slice.inj hsl
   have rl:=World.block_lt_of_cell? _ _ r0
   have hwm:mb≤wr.heap.size:=by rw[←HMB.out];exact hB.size
   have hM2:=hM.kept (aj wr (.cells #[.int .i64 (x:Nat),.int .i64 (y:Nat)] 140))
   have hB3:=hB.alloc hB.size (.cells #[.int .i64 (x:Nat),.int .i64 (y:Nat)] 140)
   have hQ2:=Box.new wr #[.int .i64 (x:Nat),.int .i64 (y:Nat)] 140
   obtain⟨pb,hpb⟩:∃ pb,wr.heap.size=pb:=⟨_,rfl⟩
   have tJ:g≠pb:=by omega
   have s0:(wr.alloc (.cells #[.int .i64 (x:Nat),.int .i64 (y:Nat)] 140)).cell? ⟨pb,0,none⟩=some (.int .i64 (x:Nat)):=by rw[←hpb];exact hQ2.cell 0
   have s1:(wr.alloc (.cells #[.int .i64 (x:Nat),.int .i64 (y:Nat)] 140)).cell? ⟨pb,1,none⟩=some (.int .i64 (y:Nat)):=by rw[←hpb];exact hQ2.cell 1
   have sl:pb<(wr.alloc (.cells #[.int .i64 (x:Nat),.int .i64 (y:Nat)] 140)).heap.size:=by rw[World.size_alloc];omega
   rw[hpb] at hQ2
   have HPB:=ah (And.intro hpb (And.intro tJ hwm))
   obtain⟨ln,hln⟩:∃ ln,l.length=ln:=⟨_,rfl⟩
   have oU:=ah hln
   have hlt':i<ln:=by omega
   rw[hln] at hgc hlN ⊢
   have i0:(0:Int)≤(i:Int):=by omega
   have i1:(i:Int)<(ln:Int):=by omega
   have i2:decide (i<ln)=true:=by simp[hlt']
   have HM2:=ah hM2;have HB3:=ah hB3;have HQ2:=ah hQ2;have HQ:=ah hQ;have nZ:=ah hall;have iT:=ah hxy;have uh:=ah hlt
   have HBC:=ah (OD.out _ (HB2.out.trans (hB3.mono HB2.out.size)) x y (by rw[MA.out.nl];exact h1) (by rw[MB.out.nl];exact h2))
   have hcf:∀ w,(callFunc F #[.int .i64 (x:Nat),.int .i64 (y:Nat),.pointer (some ⟨p1,0,none⟩),.pointer (some ⟨p2,0,none⟩)]).run Tryz.prog w=.ok (.enter F #[.int .i64 (x:Nat),.int .i64 (y:Nat),.pointer (some ⟨p1,0,none⟩),.pointer (some ⟨p2,0,none⟩)]) w:=fun w=>HEN.out _ w
   have ata:=hpb
   clear hM hM2 hB hB3 hQ2 hQ hall hxy hsl hgl hpb tJ hwm hln hok
   go_wp2_with fail
   refine HBC.out.mono ?_
   rintro e w6 ⟨rfl,hb6⟩
   have Ue:=HM2.out.kept hb6
   have fF:=HB3.out.trans (hb6.mono HB3.out.size)
   have hQ6:=HQ2.out.kept hb6
   clear s0 s1 sl r0 r1 rl hcf HBC
   cases hbd:bad (x,y) with
   | true =>
    have HBD:=ah hbd
    have vO:=ah fF
    clear hbd Ue fF hQ6 hb6
    go_wp2
    go_ret
    refine⟨?_,HB2.out.trans (vO.out.mono HB2.out.size)⟩
    rw[adV HQ.out.pre uh.out (by rw[iT.out];exact HBD.out)]
    rfl
   | false =>
    have HBD:=ah hbd
    have p0:=HCB.out w6 fF
    have pl:=World.block_lt_of_cell? _ _ p0
    have PD:=ah Ue;have vO:=ah fF;have HQ6:=ah hQ6
    clear hbd Ue fF hQ6 hb6
    go_wp2_with fail
    clear p0 pl
    go_loopw [9,44] (fun v9 v44 wr=>∃ (k:Nat) (lk:List ((Nat×Nat)×Int×Nat)),k≤len∧v44=.int .i64 k∧lk=sG (fP A B) i (x,y) l (L.take k)∧uw wr mb mb lk v9∧Below w2.heap.size w2 wr∧Box wr pb #[.int .i64 (x:Nat),.int .i64 (y:Nat)] 140∧∀ b,v9.ownBlock=some b→b≠pb) (fun _ v44 _=>len - (intOf v44).toNat)
    case atStart=>exact⟨0,l,Nat.zero_le _,rfl,by rw[List.take_zero];rfl,by have:=PD.out;rw[oU.out] at this;exact this,vO.out,HQ6.out,fun b e=>by cases e;exact HPB.out.2.1⟩
    case round =>
     clear HM2 HB3 HQ2 PD vO HQ6
     obtain⟨k,lk,hk,rfl,hlk,hM,hB,hQp,tJ⟩:=hrel
     obtain⟨a1',c1',rfl⟩:=hM.form
     by_cases hkl:k<len
     ·have Ux:k<L.length:=by rw[HLEN.out];exact hkl
      obtain⟨rfl,hlx⟩:=TU.out k Ux
      have q0:=hlx wr hB
      have htk:L.take (k+1)=L.take k++[L[k]]:=List.take_succ_eq_append_getElem Ux
      have hcc:=KA.out _ (List.getElem_mem Ux)
      generalize L[k]=cc at *
      have ql:=World.block_lt_of_cell? _ _ q0
      have hgood:jw (fP A B) (eU A.of B.of) (Bo A B) lk:=by
       have h9:=qC.out l i uh.out HQ.out.good (L.take k) (fun c hc=>by rw[HL.out];exact List.mem_of_mem_take hc)
       have e9:(l[i]'uh.out).1=(x,y):=iT.out
       generalize (l[i]'uh.out).1=z at h9 e9
       subst e9
       rw[hlk];exact h9
      have aeQ:lk.length≤N:=by rw[←HN.out];exact hgood.len fun m hm hx=>wX m hm hx
      obtain⟨m,hm⟩:∃ m,lk.length=m:=⟨_,rfl⟩
      rw[hm] at aeQ tJ ⊢
      obtain⟨sx,sy,hsx⟩:∃ sx sy,fP A B (x,y) cc=(sx,sy):=⟨_,_,rfl⟩
      have hst:stepD A x (A.of cc)=sx∧stepD B y (B.of cc)=sy:=by
       unfold fP at hsx
       exact Prod.mk.inj hsx
      have NT:Hid (((sx,sy)∈lk.map (·.1)→lk=sG (fP A B) i (x,y) l (L.take (k+1)))∧((sx,sy) ∉ lk.map (·.1)→lk++[((sx,sy),(i:Int),cc)]=sG (fP A B) i (x,y) l (L.take (k+1)))):=ah (by
       rw[htk,OX,←hlk,hsx]
       obtain⟨e1,e2⟩:=MJ lk ((sx,sy),(i:Int),cc)
       exact⟨fun h=>(e1 h).symm,fun h=>(e2 h).symm⟩)
      have HF:Hid (∀ v,Later wr.drew v→v.cell? ⟨pb,0,none⟩=some (.int .i64 (x:Nat))∧v.cell? ⟨pb,1,none⟩=some (.int .i64 (y:Nat))∧v.cell? ⟨w.heap.size,257,none⟩=some (.slice (some ⟨Xe,Xf,none⟩) n VA.nc)∧v.cell? ⟨w.heap.size+1,257,none⟩=some (.slice (some ⟨Xj,Xk,none⟩) m' VB.nc)∧v.cell? ⟨w.heap.size,cc,none⟩=some (.int .u8 (A.of cc:Nat))∧v.cell? ⟨w.heap.size+1,cc,none⟩=some (.int .u8 (B.of cc:Nat)) ∧
        v.cell? ⟨Xe,Xf+x,none⟩=some (.slice (some ⟨Xg x,Xh x,none⟩) Xd (rcA x))∧v.cell? ⟨Xj,Xk+y,none⟩=some (.slice (some ⟨Xl y,Xm y,none⟩) Xi (rcB y))∧v.cell? ⟨Xg x,Xh x+A.of cc,none⟩=some (.int .i64 (sx:Nat))∧v.cell? ⟨Xl y,Xm y+B.of cc,none⟩=some (.int .i64 (sy:Nat))∧Below wr.heap.size wr v):=ah fun v hl=>by
       have hv:=dl hl
       have hbw:=hB.trans (hv.mono hB.size)
       have hbm:=HB2.out.trans (hbw.mono HB2.out.size)
       obtain⟨bA,bB⟩:=HXX.out v hbw
       have hq:=hQp.kept hv
       refine⟨hq.cell 0,hq.cell 1,?_,?_,?_,?_,MA.out.row x h1 v hbm,MB.out.row y h2 v hbm,?_,?_,hv⟩
       ·rw[bA.ig.2.1,MA.out.na,MA.out.nn]
       ·rw[bB.ig.2.1,MB.out.na,MB.out.nn]
       ·rw[bA.cell,VA.qV cc hcc,yR.out.1]
       ·rw[bB.cell,VB.qV cc hcc,yR.out.2]
       ·rw[MA.out.OZ x h1 _ (MA.out.of cc hcc) v hbm,hst.1]
       ·rw[MB.out.OZ y h2 _ (MB.out.of cc hcc) v hbm,hst.2]
      have hdA:=MA.out.of cc hcc
      have hdB:=MB.out.of cc hcc
      have hcA:=MA.out.cap x h1
      have hcB:=MB.out.cap y h2
      have hnA:=MA.out.nc
      have hnB:=MB.out.nc
      have Tn:=ah (And.intro hM (And.intro hB (And.intro hQp tJ)))
      have HMm:=ah hm
      clear hM hB hQp tJ hlk hsx hst htk hgood hlx hm
      generalize A.of cc=dA at *
      generalize B.of cc=dB at *
      have c0:(cc:Int)<256:=by omega
      have x0:(x:Int)<(n:Int):=by omega
      have y0:(y:Int)<(m':Int):=by omega
      have dA0:(dA:Int)<(Xd:Int):=by omega
      have dB0:(dB:Int)<(Xi:Int):=by omega
      have k0:(0:Int)≤(k:Int):=by omega
      have k1:(k:Int)<(len:Int):=by omega
      have k2:decide (k<len)=true:=by simp[hkl]
      go_wp2_with fail
      clear q0 ql
      refine aO (R:=Later) 26 (by kernel_rfl) ?_
      refine pl [0,1,2,3,4,5,6,7,8,9,10,11,12,13,14,15,16,17,18,19,20,21,22,23,24] ?_
      repeat
       refine dR ?_ rfl (fun w1 hl=>?_) ?_
       rotate_left
       ·obtain⟨b0,b1,q1,q2,q3,q4,q5,q6,q7,q8,_⟩:=HF.out w1 hl;have t0:=World.block_lt_of_cell? _ _ b0;have t1:=World.block_lt_of_cell? _ _ q1;have t2:=World.block_lt_of_cell? _ _ q2;have t3:=World.block_lt_of_cell? _ _ q5;have t4:=World.block_lt_of_cell? _ _ q6;have t5:=World.block_lt_of_cell? _ _ q7;have t6:=World.block_lt_of_cell? _ _ q8;go_simp;try with_reducible rfl
       simp only[eA,eB,eC,Act.put,eD,eE,eF]
      refine bV ?_
      refine bg (t:=26) (i:=25) (by kernel_rfl) rfl (fun w1 hl K hK=>?_)
      go_simp
      refine hK.out _ _ (fun _=>aj _ _) ?_
      clear hK K
      have ML:=(HF.out w1 hl).2.2.2.2.2.2.2.2.2.2
      have hQ2:=Box.new w1 #[.int .i64 0,.int .i64 0] 140
      have hbn:=aj w1 (.cells #[.int .i64 0,.int .i64 0] 140)
      have bI:=ML.trans (hbn.mono ML.size)
      have hwl:wr.heap.size≤w1.heap.size:=ML.size
      obtain⟨qb,RD⟩:∃ qb,w1.heap.size=qb:=⟨_,rfl⟩
      rw[RD] at hQ2 hwl ⊢
      clear ML hbn RD HF hl
      generalize (w1.alloc (.cells #[.int .i64 0,.int .i64 0] 140))=w5 at *
      refine bg (t:=26) (i:=26) (by kernel_rfl) rfl (fun w1 hl K hK=>?_)
      have AB:=hQ2.kept hl
      have iH:=bI.trans (hl.mono bI.size)
      have hQ4:Box ((w1.setCell ⟨qb,0,none⟩ (.int .i64 (sx:Nat))).setCell ⟨qb,1,none⟩ (.int .i64 (sy:Nat))) qb #[.int .i64 (sx:Nat),.int .i64 (sy:Nat)] 140:=(AB.set 0 _).set 1 _
      have r0:w1.cell? ⟨qb,0,none⟩=some (.int .i64 0):=AB.cell 0
      have r1:w1.cell? ⟨qb,1,none⟩=some (.int .i64 0):=AB.cell 1
      have f0:=AB.free 0
      have f1:=AB.free 1
      have lq:=AB.lt
      have dw:Below wr.heap.size wr ((w1.setCell ⟨qb,0,none⟩ (.int .i64 (sx:Nat))).setCell ⟨qb,1,none⟩ (.int .i64 (sy:Nat))):=(iH.setCell hwl _).setCell hwl _
      go_simp
      refine hK.out _ _ (fun h=>absurd rfl h) ?_
      clear hK K hQ2 AB bI iH r0 r1 f0 f1 lq hl
      generalize ((w1.setCell ⟨qb,0,none⟩ (.int .i64 (sx:Nat))).setCell ⟨qb,1,none⟩ (.int .i64 (sy:Nat)))=w6' at *
      refine aV (by kernel_rfl) (fun w1 hl=>?_) _
      have hQ:=hQ4.kept hl
      have hBw:=dw.trans (hl.mono dw.size)
      clear hQ4 dw hl
      obtain⟨z1,z2,z3,z4⟩:=Tn.out
      have EL:=z1.kept hBw
      have iH:=z2.trans (hBw.mono z2.size)
      have hP7:=z3.kept hBw
      have hqm:qb≠mb:=by have:=z1.mp.lt;omega
      have hpm:pb≠mb:=by
       rintro rfl
       obtain⟨es,cl,hm,_⟩:=z1.mp
       rw[show wr.heap[pb]?=_ from z3] at hm
       cases hm
      have hlk:=kS EL.mp JK Tryz.underlying141 (Ze w1) (sx,sy)
      rw[Gu] at hlk
      have r0:w1.cell? ⟨qb,0,none⟩=some (.int .i64 (sx:Nat)):=hQ.cell 0
      have r1:w1.cell? ⟨qb,1,none⟩=some (.int .i64 (sy:Nat)):=hQ.cell 1
      have lq:=hQ.lt
      by_cases hmem:(sx,sy)∈lk.map (·.1)
      ·rw[if_pos hmem] at hlk
       simp only[Option.getD_some] at hlk
       have apv:(Instr.lookup 141 (.map (some mb)) (.agg #[.int .i64 (sx:Nat),.int .i64 (sy:Nat)]) false).run Tryz.prog w1=.ok (.bool true) w1:=hlk
       have MN:=ah (NT.out.1 hmem)
       have HE:=ah (And.intro EL (And.intro iH (And.intro hP7 z4)))
       clear hlk hmem EL iH hP7 z1 z2 z3 z4 hQ hBw
       go_wp2
       go_roundw
       case rel =>
        obtain⟨z1,z2,z3,z4⟩:=HE.out
        exact⟨k+1,lk,hkl,by go_num,MN.out,by rw[HMm.out] at z1;exact z1,z2,z3,z4⟩
       case measure=>simp[intOf];omega
      ·rw[if_neg hmem] at hlk
       simp only[Option.getD_none] at hlk
       have apv:(Instr.lookup 141 (.map (some mb)) (.agg #[.int .i64 (sx:Nat),.int .i64 (sy:Nat)]) false).run Tryz.prog w1=.ok (.bool false) w1:=hlk
       have MN:=ah (NT.out.2 hmem)
       obtain⟨w8,hput,hm8,EM,aez,akq⟩:=EL.mp.nD JK Tryz.underlying141 (sx,sy) (.bool true)
       rw[jJ (sx,sy) _ _ (by rw[Gu,if_neg hmem])] at hm8
       have Zf:(Instr.mapUpdate 141 (.map (some mb)) (.agg #[.int .i64 (sx:Nat),.int .i64 (sy:Nat)]) (.bool true)).run Tryz.prog w1=.ok () w8:=hput
       have akr:Own w8 mb 140 2 Eb (.slice a1' m c1') (lk.map (·.1)):=by
        have:=EL.ws
        rw[HMm.out] at this
        exact this.eG fun g hg=>EM g (by have:=EL.ne g (by rw[HMm.out];exact hg);exact this)
       have hQ8:Box w8 qb #[.int .i64 (sx:Nat),.int .i64 (sy:Nat)] 140:=(EM qb hqm).trans hQ
       have hP8:Box w8 pb #[.int .i64 (x:Nat),.int .i64 (y:Nat)] 140:=(EM pb hpm).trans hP7
       have jZ:Below w2.heap.size w2 w8:=iH.trans (akq _ (by rw[HMB.out];exact Nat.le_refl _))
       have s0:w8.cell? ⟨qb,0,none⟩=some (.int .i64 (sx:Nat)):=hQ8.cell 0
       have s1:w8.cell? ⟨qb,1,none⟩=some (.int .i64 (sy:Nat)):=hQ8.cell 1
       have sl:=hQ8.lt
       have hpl:=hP8.lt
       have hms:=hm8.lt
       have akt:=akr.alloc (.cells #[.int .i64 (sx:Nat),.int .i64 (sy:Nat)] 140)
       have Ug:=hm8.alloc (.cells #[.int .i64 (sx:Nat),.int .i64 (sy:Nat)] 140)
       have KT:=hP8.alloc (.cells #[.int .i64 (sx:Nat),.int .i64 (sy:Nat)] 140)
       have dw:=jZ.alloc jZ.size (.cells #[.int .i64 (sx:Nat),.int .i64 (sy:Nat)] 140)
       have hNE:=ah (And.intro (fun g (hg:(Value.slice a1' m c1').ownBlock=some g)=>EL.ne g (by rw[HMm.out];exact hg)) z4)
       have aeR:Hid ((lk.map (·.1)).length=m):=ah (by rw[List.length_map,HMm.out])
       clear hlk hput hmem EL iH hP7 z1 z2 z3 z4 hQ hBw EM akq hm8 akr hQ8 hP8 jZ aez
       go_wp2_with (at_builtin;go_must (refine eX rfl _ _ 142 rfl ahq uD rfl akt ⟨w8.heap.size,0,none⟩ 1 (sx,sy) rfl (bW w8 [.int .i64 (sx:Nat),.int .i64 (sy:Nat)] _) (by rw[aeR.out];simp only[maxLen];omega) (by rw[aeR.out];omega) (by rw[World.size_alloc];omega) ?_;intro a9 c9 w9 yT wo OH;change World.grownBy _ _ (Value.slice a1' m c1').ownBlock at wo;change _=(Value.slice a1' m c1').ownBlock∨_ at OH;rw[aeR.out] at yT OH ⊢;have NC:=ah (And.intro yT (And.intro wo OH));clear yT wo OH))
       go_roundw
       case rel =>
        obtain⟨z1,z2,z3⟩:=NC.out
        refine⟨k+1,_,hkl,by go_num,MN.out,⟨?_,?_⟩,?_,?_,fun b hb=>?_⟩
        ·rw[List.map_append];exact z1
        ·have:=Ug.same (z2.block mb Ug.lt fun e=>hNE.out.1 mb e.symm rfl)
         unfold Uu at this ⊢
         rw[List.map_append]
         exact this
        ·exact below_grown dw akt z2 (by rw[HMB.out];exact Nat.le_refl _) dw.size
        ·exact(z2.block pb KT.lt fun e=>hNE.out.2 pb e.symm rfl).trans KT
        ·rcases z3 with e | e
         ·exact hNE.out.2 b (e▸hb)
         ·rw[e] at hb
          cases hb
          rw[World.size_alloc]
          omega
       case measure=>simp[intOf];omega
     ·obtain rfl:k=len:=by omega
      have hal:L.take k=L:=List.take_of_length_le (by rw[HLEN.out];exact Nat.le_refl _)
      rw[hal,←HL.out] at hlk
      obtain⟨f',hQ'⟩:=F8.out f i l HQ.out uh.out
      have e9:(l[i]'uh.out).1=(x,y):=iT.out
      have hpre:=(mF (nx:=fP A B) i (x,y) (eU A.of B.of) l)
      generalize (l[i]'uh.out).1=z at hQ' e9
      subst e9
      rw[←hlk] at hQ' hpre
      have HQ':=ah hQ';have HMn:=ah hM;have Uy:=ah hB;have aeo:=ah hpre
      clear hal hlk hQ' hM hB hQp tJ hpre
      go_wp2
      go_roundw
      case rel =>
       refine⟨f',i+1,lk,HQ'.out,by go_num,HMn.out,Uy.out,fun j hj hji=>?_⟩
       have hjl:j<l.length:=by have:=uh.out;omega
       obtain⟨_,e⟩:=pI aeo.out hjl
       rw[e]
       by_cases hj2:j=i
       ·subst hj2;rw[iT.out];exact HBD.out
       ·exact nZ.out j hjl (by omega)
      case measure=>simp[intOf];omega
  ·have hil:i=l.length:=by have:=hQ.le;omega
   have hR:=hQ.fin hil
   have i2:decide (i<l.length)=false:=by simp;omega
   have HR:=ah hR;have nZ:=ah hall;have Uy:=ah hB
   have HIL:=ah hil
   clear hR hall hB hQ hil hM
   go_wp2
   go_ret
   refine⟨?_,HB2.out.trans (Uy.out.mono HB2.out.size)⟩
   rw[←HR.out,F9 fun j hj=>nZ.out j hj (by rw[HIL.out];exact hj)]
   rfl
end
section
open Go.RowKit
theorem Zg(V:aA)(a:Option Addr)(n c:Nat):V.cells.setIfInBounds 257 (.slice a n c)=({ V with na:=a,nn:=n,nc:=c }:aA).cells :=
 Aq (by rw[Array.size_setIfInBounds,aA.size]) (fun i h=>by rw[Array.getElem?_setIfInBounds_ne (by omega)];exact V.qV i h) (by rw[Array.getElem?_setIfInBounds_ne (by decide)];exact V.yC)
  (by rw[Array.getElem?_setIfInBounds,if_pos rfl,if_pos (by rw[aA.size];decide)]) (by rw[Array.getElem?_setIfInBounds_ne (by decide)];exact V.iZ) (by rw[Array.getElem?_setIfInBounds_ne (by decide)];exact V.yD)
theorem acd(V:aA)(a:Option Addr)(n c:Nat):V.cells.setIfInBounds 258 (.slice a n c)=({ V with la:=a,ln:=n,lc:=c }:aA).cells :=
 Aq (by rw[Array.size_setIfInBounds,aA.size]) (fun i h=>by rw[Array.getElem?_setIfInBounds_ne (by omega)];exact V.qV i h) (by rw[Array.getElem?_setIfInBounds_ne (by decide)];exact V.yC)
  (by rw[Array.getElem?_setIfInBounds_ne (by decide)];exact V.pG) (by rw[Array.getElem?_setIfInBounds,if_pos rfl,if_pos (by rw[aA.size];decide)]) (by rw[Array.getElem?_setIfInBounds_ne (by decide)];exact V.yD)
theorem MO(f:Nat→Nat)(wd:Int)(ma:Option Addr)(mn mc:Nat):Tryz.prog.built 27 [(0,.agg (aG f)),(1,.int .i64 wd),(4,.slice ma mn mc)]=some (aA.cells ⟨f,wd,none,0,0,none,0,0,ma,mn,mc⟩):=by
 obtain⟨it,hi⟩:∃ it,Tryz.prog.info? 27=some it:=Option.isSome_iff_exists.1 (by kernel_rfl)
 have hz0:(Tryz.prog.info? 27).map (fun it=>it.zero.map (fun z=>(z.cells.size,z.cells[257]?,z.cells[258]?)))=some (some (260,some (.slice none 0 0),some (.slice none 0 0))):=by kernel_rfl
 rw[hi] at hz0
 simp only[Option.map_some,Option.some.injEq] at hz0
 obtain⟨z,hz,hzs⟩:=Option.map_eq_some_iff.1 hz0
 obtain⟨hzs,apw⟩:=Prod.mk.inj hzs
 obtain⟨hz8,hz9⟩:=Prod.mk.inj apw
 rw[Am (places:=[(0,256),(256,1),(257,1),(258,1),(259,1)]) _ hi Tryz.underlying27 hz (by kernel_rfl)]
 have hs:=aU f
 have Uh:=nP 0 (aG f).toList 0 z.cells
 have hgg:=fun i=>vZ 0 (aG f).toList 0 z.cells i (by rw[Array.length_toList];omega)
 rw[←rD] at Uh
 simp only[←rD] at hgg
 have e0:=PG (place:=(([(0,256),(256,1),(257,1),(258,1),(259,1)]:List (Nat×Nat)).toArray[·]?)) (cells:=z.cells) (i:=0) (off:=0) (size:=256) (v:=.agg (aG f)) (rest:=[(1,.int .i64 wd),(4,.slice ma mn mc)]) rfl hs (by omega)
 refine e0.trans ?_
 show Instr.fill _ ((aG f).zipIdx.foldl (fun cs (x:Value×Nat)=>cs.setIfInBounds (0+x.2) x.1) z.cells) _=_
 generalize (aG f).zipIdx.foldl (fun cs (x:Value×Nat)=>cs.setIfInBounds (0+x.2) x.1) z.cells=F at *
 rw[Ap (off:=256) rfl rfl (by omega),Ap (off:=259) rfl rfl (by rw[Array.size_setIfInBounds];omega)]
 refine congrArg some (Aq (by rw[Array.size_setIfInBounds,Array.size_setIfInBounds];omega) (fun i h=>?_) ?_ ?_ ?_ ?_)
 ·rw[Array.getElem?_setIfInBounds_ne (by omega),Array.getElem?_setIfInBounds_ne (by omega),hgg i,if_pos (by rw[Array.length_toList];omega),Array.getElem?_toList,show i - (0+0)=i by omega,dG _ _ h]
 ·rw[Array.getElem?_setIfInBounds_ne (by omega),Array.getElem?_setIfInBounds,if_pos rfl,if_pos (by omega)]
 ·rw[Array.getElem?_setIfInBounds_ne (by omega),Array.getElem?_setIfInBounds_ne (by omega),hgg 257,if_neg (by rw[Array.length_toList];omega),hz8]
 ·rw[Array.getElem?_setIfInBounds_ne (by omega),Array.getElem?_setIfInBounds_ne (by omega),hgg 258,if_neg (by rw[Array.length_toList];omega),hz9]
 ·rw[Array.getElem?_setIfInBounds,if_pos rfl,if_pos (by rw[Array.size_setIfInBounds];omega)]
theorem Zh(l:List Int):l.map (Value.int .i64)=l.flatMap encI:=by
 induction l with
 | nil=>rfl
 | cons x l ih=>rw[List.map_cons,ih,List.flatMap_cons];rfl
abbrev Gv(x:Option Addr×Nat×Nat):List Value:=[.slice x.1 x.2.1 x.2.2]
theorem Gw:dX Gv 1:=⟨fun _=>rfl,fun x u hu=>by simp[Gv] at hu;subst hu;rfl⟩
theorem Zi:dI Tryz.prog 23 24 (.slice none 0 0) 1 24:=⟨Tryz.underlying23,info_parts (by kernel_rfl),rfl,by decide⟩
abbrev xY(x:Option Addr×Nat×Nat):Value:=.slice x.1 x.2.1 x.2.2
theorem Zj{α β:Type}{w:World}{v:Value}{f:α→Value}{g:β→Value}{m:α→β}{xs:List α}(h:au w v 1 (fun x=>[f x]) xs)(hm:∀ x,g (m x)=f x):au w v 1 (fun x=>[g x]) (xs.map m):=by
 obtain⟨a,b,o,cap,hv,h1,h2,h3,h4⟩:=h
 refine⟨a,b,o,cap,by rw[List.length_map];exact hv,by rw[List.length_map];exact h1,h2,?_,fun i hi j u hu=>?_⟩
 ·rcases h3 with h3 | ⟨rfl,h3⟩
  ·exact .inl h3
  ·exact .inr ⟨rfl,h3⟩
 ·have hi':i<xs.length:=by simpa using hi
  simp only[List.getElem_map,hm] at hu
  exact h4 i hi' j u hu
theorem aeS(l:List Int)(a:Option Addr)(n cap:Nat)(w:World)(h:au w (.slice a n cap) 1 encI l)(h0:0<l.length)(hl:l.length≤1099511627776) :
  Calls Tryz.prog 87 #[.slice a n cap] w (fV w 3 1 encI l):=by
 obtain⟨b,o,hn,hc,hc2,ha,hx⟩:=h.bU (f:=fun x:Int=>Value.int .i64 x)
 obtain rfl:=ha 0 h0
 subst hn
 have:=Tryz.slices_Clone_int b o l.length cap l w (by simp) (by omega) (fun j hj=>by
  rw[hx j hj w (Below.refl _ _)]
  simp[List.getD,hj])
 refine this.mono fun e w' he=>?_
 obtain⟨v',rfl,hr,_,hB⟩:=he
 rw[List.take_of_length_le (by simp),Zh] at hr
 have ho:Own w' w.heap.size 3 1 encI v' l:=Own.ofRow hr kJ
 obtain⟨a',c',rfl⟩:=ho.form
 exact⟨a',c',rfl,ho,hB⟩
structure lW(w:World)(ob base:Nat)(V:aA)(of:Nat→Nat)(wd:Int)(NS:List (List UInt8))(nx:List (List Int))(lab:List Int):Prop where
 box:Box w ob V.cells 27
 of:V.of=of
 width:V.width=wd
 lab:Own w base 3 1 encI (.slice V.la V.ln V.lc) lab
 Xn:Own w base 9 1 jl (.slice V.ma V.mn V.mc) NS
 Xo:∃ rows:List (Option Addr×Nat×Nat),Own w base 24 1 Gv (.slice V.na V.nn V.nc) rows∧rows.length=nx.length∧(∀ i (h1:i<rows.length) (h2:i<nx.length),Own w base 3 1 encI (xY rows[i]) nx[i])∧∀ i (h1:i<rows.length) (g:Nat),(xY rows[i]).ownBlock=some g→(Value.slice V.la V.ln V.lc).ownBlock≠some g
section
variable {w w' w2:World} {ob base:Nat} {V:aA} {of:Nat→Nat} {wd:Int} {NS:List (List UInt8)} {nx:List (List Int)} {lab:List Int}
theorem lW.kept(h:lW w ob base V of wd NS nx lab)(hb:Below w.heap.size w w'):lW w' ob base V of wd NS nx lab:=by
 obtain⟨rows,h1,h2,h3,h4⟩:=h.Xo
 exact⟨h.box.kept hb,h.of,h.width,h.lab.kept hb,h.Xn.kept hb,rows,h1.kept hb,h2,fun i p q=>(h3 i p q).kept hb,h4⟩
theorem lW.row{a':Option Addr}{n' cap':Nat}{rows:List (Option Addr×Nat×Nat)}{x:Option Addr×Nat×Nat}{l:List Int}(h:lW w ob base V of wd NS nx lab)
  (h1:Own w base 24 1 Gv (.slice V.na V.nn V.nc) rows) (h2:rows.length=nx.length) (h3:∀ i (h1:i<rows.length) (h2:i<nx.length),Own w base 3 1 encI (xY rows[i]) nx[i]) (h4:∀ i (h1:i<rows.length) (g:Nat),(xY rows[i]).ownBlock=some g→(Value.slice V.la V.ln V.lc).ownBlock≠some g)
  (hg:w.grownBy w' (Value.slice V.na V.nn V.nc).ownBlock) (ho:Own w' base 24 1 Gv (.slice a' n' cap') (rows++[x])) (hx:Own w base 3 1 encI (xY x) l) (hxd:∀ g,(xY x).ownBlock=some g→(Value.slice V.la V.ln V.lc).ownBlock≠some g) (hl:Below w'.heap.size w' w2) :
  lW (w2.setCell ⟨ob,257,none⟩ (.slice a' n' cap')) ob base { V with na:=a',nn:=n',nc:=cap' } of wd NS (nx++[l]) lab:=by
 have hb2:Box w2 ob V.cells 27:=(h.box.cu h1 hg (by decide)).kept hl
 refine⟨?_,h.of,h.width,((h.lab.cu h1 hg (by decide)).kept hl).lD hb2 (by decide) _ _,((h.Xn.cu h1 hg (by decide)).kept hl).lD hb2 (by decide) _ _,rows++[x],(ho.kept hl).lD hb2 (by decide) _ _,by simp[h2],fun i p q=>?_,fun i p g hgi=>?_⟩
 ·have:=hb2.set 257 (.slice a' n' cap')
  rwa[Zg] at this
 ·by_cases hi:i<rows.length
  ·have e1:(rows++[x])[i]=rows[i]:=List.getElem_append_left hi
   have e2:(nx++[l])[i]=nx[i]'(by omega):=List.getElem_append_left (by omega)
   rw[e1,e2]
   exact(((h3 i hi (by omega)).cu h1 hg (by decide)).kept hl).lD hb2 (by decide) _ _
  ·obtain rfl:i=rows.length:=by simp at p;omega
   have e1:(rows++[x])[rows.length]=x:=by simp
   have e2:(nx++[l])[rows.length]'(by simp;omega)=l:=by simp[h2]
   rw[e1,e2]
   exact((hx.cu h1 hg (by decide)).kept hl).lD hb2 (by decide) _ _
 ·by_cases hi:i<rows.length
  ·have e1:(rows++[x])[i]=rows[i]:=List.getElem_append_left hi
   rw[e1] at hgi
   exact h4 i hi g hgi
  ·obtain rfl:i=rows.length:=by simp at p;omega
   have e1:(rows++[x])[rows.length]=x:=by simp
   rw[e1] at hgi
   exact hxd g hgi
theorem lW.add{a':Option Addr}{n' cap':Nat}{y:Int}(h:lW w ob base V of wd NS nx lab)(ho:Own w' base 3 1 encI (.slice a' n' cap') (lab++[y]))(hg:w.grownBy w' (Value.slice V.la V.ln V.lc).ownBlock)
  (hf:(Value.slice a' n' cap').ownBlock=(Value.slice V.la V.ln V.lc).ownBlock∨(Value.slice a' n' cap').ownBlock=some w.heap.size):lW (w'.setCell ⟨ob,258,none⟩ (.slice a' n' cap')) ob base { V with la:=a',ln:=n',lc:=cap' } of wd NS nx (lab++[y]):=by
 obtain⟨rows,h1,h2,h3,h4⟩:=h.Xo
 have hb2:Box w' ob V.cells 27:=h.box.cu h.lab hg (by decide)
 refine⟨?_,h.of,h.width,ho.lD hb2 (by decide) _ _,(h.Xn.cu h.lab hg (by decide)).lD hb2 (by decide) _ _,rows,(h1.cu h.lab hg (by decide)).lD hb2 (by decide) _ _,h2,fun i p q=>?_,fun i p g hgi=>?_⟩
 ·have:=hb2.set 258 (.slice a' n' cap')
  rwa[acd] at this
 ·exact((h3 i p q).CU hg (fun k hk=>h4 i p k hk)).lD hb2 (by decide) _ _
 ·rcases hf with e | e
  ·show(Value.slice a' n' cap').ownBlock≠some g
   rw[e];exact h4 i p g hgi
  ·show(Value.slice a' n' cap').ownBlock≠some g
   rw[e]
   intro e2
   by_cases hq:i<nx.length
   ·have:=((h3 i p hq).je g hgi).2
    have:=Option.some.inj e2
    omega
   ·omega
theorem lW.reads{D:aQ}(h:lW w ob base V D.of D.width D.names D.next D.label):aZ w V D:=by
 obtain⟨rows,h1,h2,h3,_⟩:=h.Xo
 refine⟨h.of,h.width,h.lab.slice kJ,h.Xn.slice pX,rows.map xY,Zj (m:=xY) (f:=xY) (g:=fun v=>v) (h1.slice Gw) (fun _=>rfl),by rw[List.length_map];exact h2,fun i a b=>?_⟩
 have ha:i<rows.length:=by simpa using a
 have h4:=h3 i ha b
 obtain⟨a',c',hv⟩:=h4.form
 refine⟨a',c',by rw[List.getElem_map];exact hv,?_⟩
 rw[←hv]
 exact h4.slice kJ
end
end
end Go.Proofs.YtengfapcaaacaaaGreatDoor
