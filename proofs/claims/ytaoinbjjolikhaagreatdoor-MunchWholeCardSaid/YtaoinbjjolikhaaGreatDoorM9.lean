/- The texts of B9, in few letters (mini.py). -/
import Derived.Shelf.Bytes.SlSmallAll
import Derived.Test.YtaoinbjjolikhaaGreatDoorM6
set_option linter.unusedVariables false
set_option linter.unusedSimpArgs false
set_option maxHeartbeats 3200000
set_option maxRecDepth 20000
namespace Go.Proofs.YtaoinbjjolikhaaGreatDoor
section
open Go.RowKit
def RV(l:List Nat):ByteArray:=strOfNums (l.map fun(x:Nat)=>(x:Int))
theorem Ph{P:Program}{w:World}{src dst e:TypeId}(hs:P.underlying src=some (.slice e))(he:P.underlying e=some (.int .u8))(hd:P.underlying dst=some .string){a:Option Addr}{cap n:Nat}{xs:List Nat}(hn:n=xs.length)(h:ak w (.slice a n cap) 1 gB xs) :
  (convert src dst (.slice a n cap)).run P w=.ok (.string (RV xs)) w:=by
 subst hn
 obtain⟨a',b,o,cap',hv,hl,hc,ha,hx⟩:=h
 obtain⟨rfl,_,rfl⟩:=Value.slice.inj hv
 rcases ha with rfl | ⟨rfl,_⟩
 ·refine run_convert_bytes_arg w src e hs he b o xs.length cap (xs.map fun(x:Nat)=>(x:Int)) (by simp) (fun i hi=>?_) dst hd
  have:=hx i hi 0 _ rfl
  rw[Nat.mul_one,Nat.add_zero] at this
  rw[this]
  simp[List.getD,hi]
 ·exact run_convert_bytes_zero w src e hs he a cap dst hd
theorem iE{P:Program}{o:Oper}{a:Act}{w:World}(ty:TypeId)(x:Operand)(ho:o.op=.load ty x)(g:Nat)(hx:a.eval x=.pointer (some ⟨g,0,none⟩)){cs:Array Value}{E:Nat}(hb:Box w g cs E)
  {d:TypeDesc} (hu:P.underlying ty=some d) (hd:(match d with | .struct _ | .array _ _=>true | _=>false)=true) (hi:(P.info? ty).map (·.size)=some cs.size):(execOp a.eval o).run P w=.ok (.value (.agg cs)) w:=by
 unfold execOp
 simp only[ho,hx,Instr.loadAt,Instr.sureAddr,Sem.run_bind,Sem.run_pure,Result.andThen_ok,run_loadVar_row w g E ty cs (0,0) d hb hu hd hi]
end
section
open Go.RowKit
abbrev sv(l:List UInt8):Value:=.string ⟨l.toArray⟩
abbrev bQ(x:UInt8):List Value:=[.int .u8 (x.toNat:Nat)]
abbrev encI(n:Int):List Value:=[.int .i64 n]
abbrev nO(l:List UInt8):List Value:=[sv l]
abbrev acH(v:Value):List Value:=[v]
theorem Dw:gq bQ 1:=⟨fun _=>rfl,fun x u hu=>by simp[bQ] at hu;subst hu;rfl⟩
theorem uP:gq encI 1:=⟨fun _=>rfl,fun x u hu=>by simp[encI] at hu;subst hu;rfl⟩
theorem Dx:gq nO 1:=⟨fun _=>rfl,fun x u hu=>by simp[nO] at hu;subst hu;rfl⟩
theorem Oh(a:List UInt8):(⟨a.toArray⟩:ByteArray).size=a.length:=by simp[ByteArray.size]
theorem acI{w:World}{v:Value}{xs:List UInt8}(h:ak w v 1 bQ xs):ak w v 1 gB (xs.map fun x=>x.toNat):=by
 obtain⟨a,b,o,cap,hv,hl,hc,ha,hx⟩:=h
 refine⟨a,b,o,cap,by rw[List.length_map];exact hv,by rw[List.length_map];exact hl,hc,ha.imp id (fun⟨h1,h2⟩=>⟨by simp[h1],h2⟩),fun i hi j u hu=>?_⟩
 rw[List.length_map] at hi
 refine hx i hi j u ?_
 rw[List.getElem_map] at hu
 exact hu
theorem XM(xs:List UInt8):RV (xs.map fun x=>x.toNat)=⟨xs.toArray⟩:=by
 unfold RV strOfNums
 simp only[List.map_map]
 congr 1
 congr 1
 conv=>rhs;rw[←List.map_id xs]
 exact List.map_congr_left fun x _=>by simp
theorem FU{P:Program}{w:World}{src dst e:TypeId}(hs:P.underlying src=some (.slice e))(he:P.underlying e=some (.int .u8))(hd:P.underlying dst=some .string){a:Option Addr}{cap n:Nat}{xs:List UInt8}(hn:n=xs.length)(h:ak w (.slice a n cap) 1 bQ xs) :
  (convert src dst (.slice a n cap)).run P w=.ok (sv xs) w:=by
 have:=Ph hs he hd (xs:=xs.map fun x=>x.toNat) (by rw[List.length_map];exact hn) (acI h)
 rwa[XM] at this
theorem ak.dG{α:Type}{f:α→Value}{w:World}{a:Option Addr}{n cap:Nat}{xs:List α}(h:ak w (.slice a n cap) 1 (fun x=>[f x]) xs) :
  ∃ b o,n=xs.length∧xs.length≤cap∧cap≤9223372036854775807∧(∀ i,i<xs.length→a=some ⟨b,o,none⟩) ∧
   ∀ i (h:i<xs.length) (w':World),Below w.heap.size w w'→w'.cell? ⟨b,o+i,none⟩=some (f xs[i]):=by
 obtain⟨b,o,h1,h2,h3,h4,h5⟩:=h.open
 refine⟨b,o,h1,h2,h3,h4,fun i hi w' hB=>?_⟩
 have:=h5 i hi 0 _ rfl
 rw[Nat.mul_one,Nat.add_zero] at this
 rw[hB.cell (World.block_lt_of_cell? w _ this)];exact this
theorem yX{α:Type}{enc:α→List Value}{size:Nat}{P:Program}{ops:Array Oper}{rest:List Oper}{o:Oper}{a:Act}{w:World}{Q:Exit→Act→World→Prop}(hgd:o.guard=none)(t:TypeId)(x y:Operand)(ho:o.op=.makeSlice t x y)
  {E:TypeId} {z:Value} {bytes:Nat} (hE:fG P t E z size bytes) (he:gq enc size) (c:Nat) (hx:a.eval x=.int .i64 0) (hy:a.eval y=.int .i64 c) (hbytes:bytes*c≤281474976710656) (h63:c≤maxLen) (base:Nat) (hb:base≤w.heap.size)
  (h:∀ w1,Own w1 base E size enc (.slice (some ⟨w.heap.size,0,none⟩) 0 c) ([]:List α)→w.grownBy w1 none→wpList P ops Q rest (a.put o.dst (.slice (some ⟨w.heap.size,0,none⟩) 0 c)) w1):wpList P ops Q (o::rest) a w:=by
 obtain⟨i,hi,hiz,his,hib⟩:=hE.info
 subst hib
 refine wpList_plain hgd fun K hK=>?_
 obtain⟨w1,hr,hown,hg⟩:=run_make_own (P:=P) w base t E i z size hE.slice hi hiz his .i64 .i64 c hbytes h63 hb
 unfold Oper.wp execOp
 simp only[ho,hx,hy,Sem.run_bind,Sem.run_pure,Result.andThen_ok,hr,Oper.upon]
 exact hK _ _ (h _ (Own.ofRow (xs:=([]:List α)) hown he) hg)
end
section
open Go.RowKit
theorem uD{w:World}{a b:Bool}(h:a=b):aX w (.bool a) (.returned (.bool b)) w:=⟨by rw[h],Below.refl _ _⟩
theorem XO{a b:Bool}(h:a=b):Ending.returned (.bool b)=.returned (.bool a):=by rw[h]
def qj(x:Nat):Bool:=x==95||(decide (97≤x)&&decide (x≤122))||(decide (65≤x)&&decide (x≤90))
def iq(x:Nat):Bool:=decide (48≤x)&&decide (x≤57)
def ru(x:Nat)(first:Bool):Bool:=qj x||(!first&&iq x)
theorem alT:∀ x:Nat,x<256→∃ y:Nat,bits BinOp.or IntKind.u8 (x:Int) 32=(y:Int)∧qj x=(x==95||(decide (97≤y)&&decide (y≤122)))∧y<256:=by
 have h:(List.range 256).all (fun(x:Nat)=>bits BinOp.or IntKind.u8 (x:Int) 32==((bits BinOp.or IntKind.u8 (x:Int) 32).toNat:Int)&&(qj x==(x==95||(decide (97≤(bits BinOp.or IntKind.u8 (x:Int) 32).toNat)&&decide ((bits BinOp.or IntKind.u8 (x:Int) 32).toNat≤122))))&&decide ((bits BinOp.or IntKind.u8 (x:Int) 32).toNat<256))=true:=by decide +kernel
 intro x hx
 have h2:=List.all_eq_true.1 h x (by simpa using hx)
 simp only[Bool.and_eq_true,beq_iff_eq,decide_eq_true_eq] at h2
 exact⟨_,h2.1.1,h2.1.2,h2.2⟩
def runFrom:Bool→List UInt8→Nat
 | _,[]=>0
 | first,c::r=>if ru c.toNat first then runFrom false r+1 else 0
theorem vO:∀ (b:Bool) (l:List UInt8),runFrom b l≤l.length
 | _,[]=>Nat.le_refl _
 | b,c::r=>by
  rw[runFrom];split
  ·have:=vO false r;simp;exact this
  ·simp
def qJ(s:List UInt8):Bool:=!s.isEmpty&&decide (s.length≤32)&&(runFrom true s==s.length)
theorem I5(x:Nat)(w:World)(hx:x<256):Calls Tryz.prog 126 #[.int .u8 x] w (aX w (.bool (qj x))):=by
 obtain⟨y,hy,hl,hy2⟩:=alT x hx
 rw[hl]
 by_cases h0:x=95
 ·subst h0
  clear hl hy
  go_enter Tryz.func126,Tryz.ntmps126
  go_wp2
  go_ret
  exact⟨rfl,Below.refl _ _⟩
 ·have e0:((x:Int)==95)=false:=by simp;omega
  have e1:(x==95)=false:=by simp;omega
  rw[e1,Bool.false_or]
  clear e1 hl
  by_cases h1:97≤y
  ·have e2:decide (97≤(y:Int))=true:=by simp;omega
   go_enter Tryz.func126,Tryz.ntmps126
   go_wp2
   go_ret
   exact uD (by rw[Bool.eq_iff_iff];simp;omega)
  ·have e2:decide (97≤(y:Int))=false:=by simp;omega
   go_enter Tryz.func126,Tryz.ntmps126
   go_wp2
   go_ret
   exact uD (by rw[Bool.eq_iff_iff];simp;omega)
theorem drop_at{α:Type}(l:List α)(k:Nat)(h:k<l.length):l.drop k=l[k]::l.drop (k+1):=(List.getElem_cons_drop h).symm
theorem acJ(s:List UInt8)(w:World)(hs:s.length≤9223372036854775807):Calls Tryz.prog 89 #[sv s] w (aX w (.int .i64 (runFrom true s:Nat))):=by
 obtain⟨n,hn⟩:∃ n,s.length=n:=⟨_,rfl⟩
 have hix:∀ (k:Nat) (h:k<(⟨s.toArray⟩:ByteArray).size) (h2:k<s.length),(⟨s.toArray⟩:ByteArray)[k]=s[k]:=fun k h h2=>rfl
 have hsz:(⟨s.toArray⟩:ByteArray).size=n:=by rw[Oh,hn]
 have Lr:=ah hix
 have HN:=ah hn
 rw[hn] at hs
 clear hix
 go_enter Tryz.func89,Tryz.ntmps89
 go_wp2
 go_loopw [3] (fun i wr=>∃ k:Nat,k≤n∧i=.int .i64 k∧runFrom true s=k+runFrom (k==0) (s.drop k)∧Below w.heap.size w wr) (fun i _=>n - (intOf i).toNat)
 case atStart=>exact⟨0,Nat.zero_le _,rfl,by simp,Below.refl _ _⟩
 case round =>
  obtain⟨k,hk,rfl,ha,hB⟩:=hrel
  by_cases hlt:k<n
  ·have hk2:k<s.length:=by rw[HN.out];exact hlt
   rw[drop_at s k hk2,runFrom] at ha
   have hi:=fun h=>Lr.out k h hk2
   have hm:=fun w=>I5 s[k].toNat w s[k].toNat_lt
   have hc256:=s[k].toNat_lt
   generalize s[k]=c at *
   by_cases hl:qj c.toNat=true
   ·rw[hl] at hm
    have wQ:ru c.toNat (k==0)=true:=by unfold ru;rw[hl];rfl
    rw[wQ,if_pos rfl] at ha
    have HM:=ah hm
    have HA:=ah ha
    clear hm ha wQ hl
    go_wp2_with (go_at_call 126;go_must (refine(HM.out _).mono ?_;rintro e w1 ⟨rfl,hB1⟩))
    go_roundw
    case rel=>exact⟨k+1,hlt,by go_num,by rw[HA.out];simp;omega,hB.trans (hB1.mono hB.size)⟩
    case measure=>simp[intOf];omega
   ·have hl:=Bool.eq_false_iff.2 hl
    rw[hl] at hm
    have wQ:ru c.toNat (k==0)=(!(k==0)&&iq c.toNat):=by unfold ru;rw[hl];rfl
    rw[wQ] at ha
    have HM:=ah hm
    unfold iq at ha
    clear hm wQ hl
    by_cases h0:k=0
    ·subst h0
     have HA:=ah ha
     clear ha
     go_wp2_with (go_at_call 126;go_must (refine(HM.out _).mono ?_;rintro e w1 ⟨rfl,hB1⟩))
     go_ret
     exact⟨by rw[HA.out];rfl,hB.trans (hB1.mono hB.size)⟩
    ·have e0:decide (0<(k:Int))=true:=by simp;omega
     have e00:(0<k):=by omega
     have hkb:(k==0)=false:=by simp;omega
     rw[hkb] at ha
     by_cases d1:48≤c.toNat
     ·have e1:decide (48≤(c.toNat:Int))=true:=by simp;omega
      by_cases d2:c.toNat≤57
      ·have e2:decide ((c.toNat:Int)≤57)=true:=by simp;omega
       rw[if_pos (by simp[d1,d2])] at ha
       have HA:=ah ha
       clear ha hkb h0
       go_wp2_with (go_at_call 126;go_must (refine(HM.out _).mono ?_;rintro e w1 ⟨rfl,hB1⟩))
       go_roundw
       case rel=>exact⟨k+1,hlt,by go_num,by rw[HA.out];simp;omega,hB.trans (hB1.mono hB.size)⟩
       case measure=>simp[intOf];omega
      ·have e2:decide ((c.toNat:Int)≤57)=false:=by simp;omega
       rw[if_neg (by simp[d1,d2])] at ha
       have HA:=ah ha
       clear ha hkb h0
       go_wp2_with (go_at_call 126;go_must (refine(HM.out _).mono ?_;rintro e w1 ⟨rfl,hB1⟩))
       go_ret
       exact⟨by rw[HA.out];rfl,hB.trans (hB1.mono hB.size)⟩
     ·have e1:decide (48≤(c.toNat:Int))=false:=by simp;omega
      rw[if_neg (by simp[d1])] at ha
      have HA:=ah ha
      clear ha hkb h0
      go_wp2_with (go_at_call 126;go_must (refine(HM.out _).mono ?_;rintro e w1 ⟨rfl,hB1⟩))
      go_ret
      exact⟨by rw[HA.out];rfl,hB.trans (hB1.mono hB.size)⟩
  ·obtain rfl:k=n:=by omega
   rw[List.drop_eq_nil_of_le (by rw[HN.out];exact Nat.le_refl _),runFrom] at ha
   have HA:=ah ha
   clear ha
   go_wp2
   go_ret
   exact⟨by rw[HA.out];rfl,hB⟩
theorem Pj(s:List UInt8)(w:World)(hs:s.length≤9223372036854775807):Calls Tryz.prog 61 #[sv s] w (aX w (.bool (qJ s))):=by
 have hr:=fun w=>acJ s w hs
 have hle:=vO true s
 unfold qJ
 generalize runFrom true s=r at *
 have HR:=ah hr
 clear hr
 cases s with
 | nil =>
  go_enter Tryz.func61,Tryz.ntmps61
  go_wp2_with (go_at_call 89;go_must (refine(HR.out _).mono ?_;rintro e w1 ⟨rfl,hB1⟩))
  go_ret
  exact⟨rfl,Below.refl _ _⟩
 | cons a l =>
  have e0:((!(a::l).isEmpty&&decide ((a::l).length≤32)&&r==(a::l).length):Bool)=(decide (l.length+1≤32)&&r==l.length+1):=rfl
  rw[e0]
  rw[List.length_cons] at hle hs
  generalize hm:l.length=m at *
  have HM:=ah hm
  have hle2:(r:Int)≤(m:Int)+1:=by omega
  by_cases h1:m+1≤32
  ·have e1:decide ((m:Int)+1≤32)=true:=by simp;omega
   go_enter Tryz.func61,Tryz.ntmps61
   go_wp2_with (go_at_call 89;go_must (refine(HR.out _).mono ?_;rintro e w1 ⟨rfl,hB1⟩))
   go_ret
   exact⟨XO (by rw[Bool.eq_iff_iff];simp;omega),hB1⟩
  ·have e1:decide ((m:Int)+1≤32)=false:=by simp;omega
   go_enter Tryz.func61,Tryz.ntmps61
   go_wp2_with (go_at_call 89;go_must (refine(HR.out _).mono ?_;rintro e w1 ⟨rfl,hB1⟩))
   go_ret
   exact⟨XO (by rw[Bool.eq_iff_iff];simp;omega),Below.refl _ _⟩
end
section
open Go.RowKit
theorem acK{P:Program}(w:World){src dst e:TypeId}(hs:P.underlying src=some .string)(hd:P.underlying dst=some (.slice e))(he:P.underlying e=some (.int .u8))(l:List UInt8)(hl:l.length≤9223372036854775807) :
  ∃ cap w',(convert src dst (sv l)).run P w=.ok (.slice (some ⟨w.heap.size,0,none⟩) l.length cap) w'∧Below w.heap.size w w'∧ak w' (.slice (some ⟨w.heap.size,0,none⟩) l.length cap) 1 bQ l:=by
 have h:=run_bytes_of_string w src dst e ⟨l.toArray⟩ hs hd he
 rw[Oh] at h
 refine⟨_,_,h,(((Below.refl _ w).drew).alloc (by simp) _),_,w.heap.size,0,_,rfl,grownCap_ge _ _ _ _,grownCap_le_maxLen _ _ _ _ hl,.inl rfl,fun i hi j u hu=>?_⟩
 cases j with
 | succ j=>simp[bQ] at hu
 | zero =>
  simp only[bQ,List.getElem?_cons_zero,Option.some.injEq] at hu
  subst hu
  rw[Nat.mul_one,Nat.zero_add,Nat.add_zero]
  have:=bytesRow_at ⟨l.toArray⟩ (grownCap w l.length 0 e) i (by simpa using hi)
  rw[show w.heap.size=w.drew.heap.size from rfl,World.cell?_alloc_mark,Nat.add_zero,this]
  simp
def jc:List UInt8→Nat
 | []=>0
 | c::r=>if iq c.toNat then jc r+1 else 0
theorem Dy:∀ l:List UInt8,jc l≤l.length
 | []=>Nat.le_refl _
 | c::r=>by
  rw[jc];split
  ·have:=Dy r;simp;exact this
  ·simp
theorem ak.cellsA{α:Type}{f:α→Value}{w:World}{b o n cap:Nat}{xs:List α}(h:ak w (.slice (some ⟨b,o,none⟩) n cap) 1 (fun x=>[f x]) xs) :
  n=xs.length∧xs.length≤cap∧cap≤9223372036854775807∧∀ i (h:i<xs.length) (w':World),Below w.heap.size w w'→w'.cell? ⟨b,o+i,none⟩=some (f xs[i]):=by
 obtain⟨b',o',h1,h2,h3,h4,h5⟩:=h.dG
 refine⟨h1,h2,h3,fun i hi w' hb=>?_⟩
 obtain⟨rfl,rfl⟩:b=b'∧o=o':=by have:=h4 i hi;simpa using this
 exact h5 i hi w' hb
theorem afY(b o cap n:Nat)(l:List UInt8)(w:World)(h:ak w (.slice (some ⟨b,o,none⟩) n cap) 1 bQ l) :
  Calls Tryz.prog 228 #[.slice (some ⟨b,o,none⟩) n cap,.int .i64 0] w (aX w (.int .i64 (jc l:Nat))):=by
 obtain⟨hlen,hcap,hcap',hcell⟩:=h.cellsA
 have hnn:n≤9223372036854775807:=by omega
 have hcc:n≤cap:=by omega
 have HC:=ah hcell
 have HL:=ah hlen
 clear hlen hcell h hcap
 go_enter Tryz.func228,Tryz.ntmps228
 go_wp2
 go_loopw [5,12] (fun v i wr=>∃ k:Nat,k≤n∧v=.int .i64 k∧i=.int .i64 k∧jc l=k+jc (l.drop k)∧Below w.heap.size w wr) (fun _ i _=>n - (intOf i).toNat)
 case atStart=>exact⟨0,Nat.zero_le _,rfl,rfl,by simp,Below.refl _ _⟩
 case round =>
  obtain⟨k,hk,rfl,rfl,hr,hB⟩:=hrel
  by_cases hlt:k<n
  ·have hk2:k<l.length:=by rw[←HL.out];exact hlt
   have c0:=HC.out k hk2 wr hB
   rw[drop_at l k hk2,jc] at hr
   generalize l[k]=c at *
   have hc256:=c.toNat_lt
   unfold iq at hr
   by_cases d1:c.toNat<48
   ·have e1:decide ((c.toNat:Int)<48)=true:=by simp;omega
    rw[if_neg (by simp;omega)] at hr
    have HR:=ah hr
    clear hr
    go_wp2
    go_ret
    exact⟨by rw[HR.out];rfl,hB⟩
   ·have e1:decide ((c.toNat:Int)<48)=false:=by simp;omega
    by_cases d2:57<c.toNat
    ·have e2:decide (57<(c.toNat:Int))=true:=by simp;omega
     rw[if_neg (by simp;omega)] at hr
     have HR:=ah hr
     clear hr
     go_wp2
     go_ret
     exact⟨by rw[HR.out];rfl,hB⟩
    ·have e2:decide (57<(c.toNat:Int))=false:=by simp;omega
     rw[if_pos (by simp;omega)] at hr
     have HR:=ah hr
     clear hr
     go_wp2
     go_roundw
     case rel=>exact⟨k+1,hlt,by go_num,by go_num,by rw[HR.out];omega,hB⟩
     case measure=>simp[intOf];omega
  ·obtain rfl:k=n:=by omega
   rw[List.drop_eq_nil_of_le (by rw[←HL.out];exact Nat.le_refl _),jc] at hr
   have HR:=ah hr
   clear hr
   go_wp2
   go_ret
   exact⟨by rw[HR.out];rfl,hB⟩
def rC(most:Nat):Nat→List UInt8→Option Nat
 | v,[]=>some v
 | v,c::r=>if (most - (c.toNat - 48)) / 10<v then none else rC most (v*10+(c.toNat - 48)) r
theorem Wh(most:Nat):∀ (l:List UInt8) (v x:Nat),(∀ c∈l,iq c.toNat=true)→v≤most→9≤most→rC most v l=some x→x≤most
 | [],v,x,_,h,_,e=>by simp[rC] at e;omega
 | c::r,v,x,hd,h,h9,e=>by
  rw[rC] at e
  split at e
  ·cases e
  ·have hc:=hd c (by simp)
   unfold iq at hc
   simp only[Bool.and_eq_true,decide_eq_true_eq] at hc
   exact Wh most r _ x (fun y hy=>hd y (by simp[hy])) (by omega) h9 e
theorem ZK(b o cap n most:Nat)(l:List UInt8)(w:World)(h:ak w (.slice (some ⟨b,o,none⟩) n cap) 1 bQ l)(hd:∀ c∈l,iq c.toNat=true)(hm:9≤most)(hm2:most≤9223372036854775807) :
  Calls Tryz.prog 240 #[.slice (some ⟨b,o,none⟩) n cap,.int .i64 most] w (aX w (match rC most 0 l with | some x=>.tuple #[.int .i64 (x:Nat),.bool true] | none=>.tuple #[.int .i64 0,.bool false])):=by
 obtain⟨hlen,hcap,hcap',hcell⟩:=h.cellsA
 have hnn:n≤9223372036854775807:=by omega
 have HC:=ah hcell
 have HL:=ah hlen
 have HD:=ah hd
 clear hlen hcell h hcap hd
 generalize hg:(match rC most 0 l with | some x=>Value.tuple #[.int .i64 (x:Nat),.bool true] | none=>.tuple #[.int .i64 0,.bool false])=res
 have HG:=ah hg
 clear hg
 go_enter Tryz.func240,Tryz.ntmps240
 go_wp2
 go_loopw [6,12] (fun v i wr=>∃ k x:Nat,k≤n∧x≤most∧v=.int .i64 x∧i=.int .i64 k∧rC most 0 l=rC most x (l.drop k)∧Below w.heap.size w wr) (fun _ i _=>n - (intOf i).toNat)
 case atStart=>exact⟨0,0,Nat.zero_le _,Nat.zero_le _,rfl,rfl,by simp,Below.refl _ _⟩
 case round =>
  obtain⟨k,x,hk,hx,rfl,rfl,hr,hB⟩:=hrel
  by_cases hlt:k<n
  ·have hk2:k<l.length:=by rw[←HL.out];exact hlt
   have c0:=HC.out k hk2 wr hB
   have hdc:=HD.out _ (List.getElem_mem hk2)
   rw[drop_at l k hk2,rC] at hr
   generalize l[k]=c at *
   unfold iq at hdc
   simp only[Bool.and_eq_true,decide_eq_true_eq] at hdc
   obtain⟨d,hdd⟩:∃ d,c.toNat=d+48:=⟨c.toNat - 48,by omega⟩
   rw[hdd] at c0 hr hdc
   have hw8:IntKind.u8.wrap (((d+48:Nat):Int) - 48)=(d:Int):=by rw[IntKind.wrap_u8'];omega
   have hw0:IntKind.i64.wrap (d:Int)=(d:Int):=IntWalk.i64_in _ (by omega)
   have hw1:IntKind.i64.wrap ((most:Int) - (d:Int))=((most - d:Nat):Int):=by rw[IntWalk.i64_in _ (by omega)];omega
   have hw2:IntKind.i64.wrap (((most - d:Nat):Int))=((most - d:Nat):Int):=IntWalk.i64_in _ (by omega)
   have hq1:((most - d:Nat):Int).tdiv 10=(((most - d) / 10:Nat):Int):=by rw[Int.tdiv_eq_ediv_of_nonneg (by omega)];omega
   have hq2:((most - d:Nat):Int) / 10=(((most - d) / 10:Nat):Int):=by omega
   have hw3:IntKind.i64.wrap (((most - d) / 10:Nat):Int)=(((most - d) / 10:Nat):Int):=IntWalk.i64_in _ (by omega)
   have e3:decide ((most:Int)<(d:Int))=false:=by simp;omega
   rw[show d+48 - 48=d by omega] at hr
   generalize hqq:(most - d) / 10=q at *
   by_cases d1:q<x
   ·have e1:decide ((q:Int)<(x:Int))=true:=by simp;omega
    rw[if_pos d1] at hr
    have HR:=ah hr
    have HQ:=ah hqq
    clear hr hqq hdd
    go_wp2
    go_ret2
    exact⟨by rw[←HG.out,HR.out];rfl,hB⟩
   ·have e1:decide ((q:Int)<(x:Int))=false:=by simp;omega
    rw[if_neg d1] at hr
    have hle:x*10+d≤most:=by omega
    have hw4:IntKind.i64.wrap ((x:Int)*10)=(x:Int)*10:=IntWalk.i64_in _ (by omega)
    have hw5:IntKind.i64.wrap ((x:Int)*10+(d:Int))=((x*10+d:Nat):Int):=by rw[IntWalk.i64_in _ (by omega)];omega
    have HR:=ah hr
    have V9:=ah hle
    have HQ:=ah hqq
    clear hr hqq hdd hle
    go_wp2
    go_roundw
    case rel=>exact⟨k+1,x*10+d,hlt,V9.out,by go_num,by go_num,HR.out,hB⟩
    case measure=>simp[intOf];omega
  ·obtain rfl:k=n:=by omega
   rw[List.drop_eq_nil_of_le (by rw[←HL.out];exact Nat.le_refl _),rC] at hr
   have HR:=ah hr
   clear hr
   go_wp2
   go_ret2
   exact⟨by rw[←HG.out,HR.out];rfl,hB⟩
def Io(s:List UInt8):Bool:=!(jc s==0)&&(!decide (jc s<s.length)&&!(s.getD 0 0==48&&decide (1<jc s)))
theorem FV{s:List UInt8}(h:Io s=true):∀ c∈s,iq c.toNat=true:=by
 have key:∀ l:List UInt8,jc l=l.length→∀ c∈l,iq c.toNat=true:=by
  intro l
  induction l with
  | nil=>simp
  | cons a r ih =>
   intro h c hc
   rw[jc] at h
   split at h
   ·rename_i ha
    rcases List.mem_cons.1 hc with rfl | hc
    ·exact ha
    ·exact ih (by simpa using h) c hc
   ·simp at h
 unfold Io at h
 simp only[Bool.and_eq_true,Bool.not_eq_true',decide_eq_false_iff_not] at h
 exact key s (by have:=Dy s;omega)
def XP(most:Nat)(s:List UInt8):Value:=if Io s then (match rC most 0 s with | some x=>.tuple #[.int .i64 (x:Nat),.int .i64 0] | none=>.tuple #[.int .i64 0,.int .i64 2]) else .tuple #[.int .i64 0,.int .i64 3]
theorem acL(s:List UInt8)(most:Nat)(w:World)(hs:s.length≤9223372036854775807)(hm:9≤most)(hm2:most≤9223372036854775807):Calls Tryz.prog 229 #[sv s,.int .i64 most] w (aX w (XP most s)):=by
 obtain⟨cap,w2,hcv,hb2,hsl⟩:=acK (P:=Tryz.prog) (src:=9) (dst:=28) w Tryz.underlying9 Tryz.underlying28 Tryz.underlying5 s hs
 obtain⟨hlen,hcap,hcap',hcell⟩:=hsl.cellsA
 have hrun:=fun w3 hb3=>afY _ _ _ _ s w3 (hsl.kept (w':=w3) hb3)
 have hval:=fun hd w3 hb3=>ZK _ _ _ _ most s w3 (hsl.kept (w':=w3) hb3) hd hm hm2
 have hle:=Dy s
 have hfd:=@FV s
 unfold XP
 unfold Io at hfd ⊢
 obtain⟨n,hn⟩:∃ n,s.length=n:=⟨_,rfl⟩
 rw[hn] at hcv hrun hval hle hcap hs hfd ⊢
 generalize jc s=r at *
 have Ag:=ah hrun
 have ag7:=ah hval
 have hg0:∀ h:0<s.length,s.getD 0 0=s[0]:=fun h=>by simp[List.getD_eq_getElem?_getD,h]
 have HC:=ah hcell
 have HG:=ah hg0
 have HN:=ah hn
 have RX:=ah hfd
 clear hrun hval hsl hcell hg0 hlen hfd hn
 by_cases h0:r=0
 ·subst h0
  rw[if_neg (by simp)]
  clear hm
  go_enter Tryz.func229,Tryz.ntmps229
  go_wp2_with (go_at_call 228;go_must (refine(Ag.out _ (Below.refl _ _)).mono ?_;rintro e w3 ⟨rfl,hB3⟩))
  go_ret2
  exact⟨rfl,hb2.trans (hB3.mono hb2.size)⟩
 ·have e0:((r:Int)==0)=false:=by simp;omega
  have e0':(r==0)=false:=by simp;omega
  by_cases h1:r<n
  ·have e1:decide ((r:Int)<(n:Int))=true:=by simp;omega
   rw[if_neg (by simp[h1])]
   clear hm
   go_enter Tryz.func229,Tryz.ntmps229
   go_wp2_with (go_at_call 228;go_must (refine(Ag.out _ (Below.refl _ _)).mono ?_;rintro e w3 ⟨rfl,hB3⟩))
   go_ret2
   exact⟨rfl,hb2.trans (hB3.mono hb2.size)⟩
  ·have e1:decide ((r:Int)<(n:Int))=false:=by simp;omega
   have hn0:0<s.length:=by rw[HN.out];omega
   have c0:=fun w3 hb3=>HC.out 0 hn0 w3 hb3
   have hgd:=HG.out hn0
   rw[hgd] at RX ⊢
   rw[Nat.add_zero] at c0
   generalize s[0]=c at *
   have C0:=ah c0
   clear c0 hgd hm
   have hcb:(c==48)=((c.toNat:Int)==48):=by
    rw[Bool.eq_iff_iff];simp only[beq_iff_eq]
    constructor
    ·rintro rfl;rfl
    ·intro h;exact UInt8.toNat_inj.1 (by simpa using Int.ofNat_inj.1 h)
   rw[hcb] at RX ⊢
   clear hcb
   cases hc:((c.toNat:Int)==48) with
   | false =>
    have hd:=RX.out (by rw[hc];simp;omega)
    have hval:=ag7.out hd
    rw[if_pos (by simp;omega)]
    generalize rC most 0 s=v at *
    have HV:=ah hval
    clear hd hval RX
    cases v with
    | none =>
     go_enter Tryz.func229,Tryz.ntmps229
     go_wp2_with (first | (go_at_call 228;go_must (refine(Ag.out _ (Below.refl _ _)).mono ?_;rintro e w3 ⟨rfl,hB3⟩;have c0:=C0.out _ hB3)) | (go_at_call 240;go_must (refine(HV.out _ hB3).mono ?_;rintro e w4 ⟨rfl,hB4⟩;have bF:=hB3.trans (hB4.mono hB3.size))))
     go_ret2
     exact⟨rfl,hb2.trans (bF.mono hb2.size)⟩
    | some x =>
     go_enter Tryz.func229,Tryz.ntmps229
     go_wp2_with (first | (go_at_call 228;go_must (refine(Ag.out _ (Below.refl _ _)).mono ?_;rintro e w3 ⟨rfl,hB3⟩;have c0:=C0.out _ hB3)) | (go_at_call 240;go_must (refine(HV.out _ hB3).mono ?_;rintro e w4 ⟨rfl,hB4⟩;have bF:=hB3.trans (hB4.mono hB3.size))))
     go_ret2
     exact⟨rfl,hb2.trans (bF.mono hb2.size)⟩
   | true =>
    by_cases h2:1<r
    ·have e2:decide (1<(r:Int))=true:=by simp;omega
     rw[if_neg (by simp[h2])]
     clear RX
     go_enter Tryz.func229,Tryz.ntmps229
     go_wp2_with (first | (go_at_call 228;go_must (refine(Ag.out _ (Below.refl _ _)).mono ?_;rintro e w3 ⟨rfl,hB3⟩;have c0:=C0.out _ hB3)) | (go_at_call 240;go_must (refine(HV.out _ hB3).mono ?_;rintro e w4 ⟨rfl,hB4⟩;have bF:=hB3.trans (hB4.mono hB3.size))))
     go_ret2
     exact⟨rfl,hb2.trans (hB3.mono hb2.size)⟩
    ·have e2:decide (1<(r:Int))=false:=by simp;omega
     have hd:=RX.out (by rw[hc];simp;omega)
     have hval:=ag7.out hd
     rw[if_pos (by simp;omega)]
     generalize rC most 0 s=v at *
     have HV:=ah hval
     clear hd hval RX
     cases v with
     | none =>
      go_enter Tryz.func229,Tryz.ntmps229
      go_wp2_with (first | (go_at_call 228;go_must (refine(Ag.out _ (Below.refl _ _)).mono ?_;rintro e w3 ⟨rfl,hB3⟩;have c0:=C0.out _ hB3)) | (go_at_call 240;go_must (refine(HV.out _ hB3).mono ?_;rintro e w4 ⟨rfl,hB4⟩;have bF:=hB3.trans (hB4.mono hB3.size))))
      go_ret2
      exact⟨rfl,hb2.trans (bF.mono hb2.size)⟩
     | some x =>
      go_enter Tryz.func229,Tryz.ntmps229
      go_wp2_with (first | (go_at_call 228;go_must (refine(Ag.out _ (Below.refl _ _)).mono ?_;rintro e w3 ⟨rfl,hB3⟩;have c0:=C0.out _ hB3)) | (go_at_call 240;go_must (refine(HV.out _ hB3).mono ?_;rintro e w4 ⟨rfl,hB4⟩;have bF:=hB3.trans (hB4.mono hB3.size))))
      go_ret2
      exact⟨rfl,hb2.trans (bF.mono hb2.size)⟩
end
section
open Go.RowKit
theorem ZL(b o n cap:Nat)(s:List UInt8)(w:World)(h:ak w (.slice (some ⟨b,o,none⟩) n cap) 1 bQ s):Calls Tryz.prog 98 #[.slice (some ⟨b,o,none⟩) n cap] w (aX w (.int .i64 (runFrom true s:Nat))):=by
 obtain⟨hn,hcap,hcap2,hc⟩:=h.cellsA
 have HC:=ah hc
 have HN:=ah hn.symm
 have hn63:n≤9223372036854775807:=by omega
 clear h hc hn hcap hcap2
 go_enter Tryz.func98,Tryz.ntmps98
 go_wp2
 go_loopw [3] (fun i wr=>∃ k:Nat,k≤n∧i=.int .i64 k∧runFrom true s=k+runFrom (k==0) (s.drop k)∧Below w.heap.size w wr) (fun i _=>n - (intOf i).toNat)
 case atStart=>exact⟨0,Nat.zero_le _,rfl,by simp,Below.refl _ _⟩
 case round =>
  obtain⟨k,hk,rfl,ha,hB⟩:=hrel
  by_cases hlt:k<n
  ·have hk2:k<s.length:=by rw[HN.out];exact hlt
   rw[drop_at s k hk2,runFrom] at ha
   have hi:=HC.out k hk2
   have hm:=fun w=>I5 s[k].toNat w s[k].toNat_lt
   have hc256:=s[k].toNat_lt
   have y0:=hi wr hB
   have Lr:=ah hi
   clear hi
   have hkn:(k:Int)<(n:Int):=by omega
   have apN:(0:Int)≤(k:Int):=by omega
   generalize s[k]=c at *
   by_cases hl:qj c.toNat=true
   ·rw[hl] at hm
    have wQ:ru c.toNat (k==0)=true:=by unfold ru;rw[hl];rfl
    rw[wQ,if_pos rfl] at ha
    have HM:=ah hm
    have HA:=ah ha
    clear hm ha wQ hl
    go_wp2_with (go_at_call 126;go_must (refine(HM.out _).mono ?_;rintro e w1 ⟨rfl,hB1⟩;have y1:=Lr.out w1 (hB.trans (hB1.mono hB.size))))
    go_roundw
    case rel=>exact⟨k+1,hlt,by go_num,by rw[HA.out];simp;omega,hB.trans (hB1.mono hB.size)⟩
    case measure=>simp[intOf];omega
   ·have hl:=Bool.eq_false_iff.2 hl
    rw[hl] at hm
    have wQ:ru c.toNat (k==0)=(!(k==0)&&iq c.toNat):=by unfold ru;rw[hl];rfl
    rw[wQ] at ha
    have HM:=ah hm
    unfold iq at ha
    clear hm wQ hl
    by_cases h0:k=0
    ·subst h0
     rw[Nat.add_zero] at y0
     have HA:=ah ha
     clear ha
     go_wp2_with (go_at_call 126;go_must (refine(HM.out _).mono ?_;rintro e w1 ⟨rfl,hB1⟩;have y1:=Lr.out w1 (hB.trans (hB1.mono hB.size))))
     go_ret
     exact⟨by rw[HA.out];rfl,hB.trans (hB1.mono hB.size)⟩
    ·have e0:decide (0<(k:Int))=true:=by simp;omega
     have e00:(0<k):=by omega
     have hkb:(k==0)=false:=by simp;omega
     rw[hkb] at ha
     by_cases d1:48≤c.toNat
     ·have e1:decide (48≤(c.toNat:Int))=true:=by simp;omega
      by_cases d2:c.toNat≤57
      ·have e2:decide ((c.toNat:Int)≤57)=true:=by simp;omega
       rw[if_pos (by simp[d1,d2])] at ha
       have HA:=ah ha
       clear ha hkb h0
       go_wp2_with (go_at_call 126;go_must (refine(HM.out _).mono ?_;rintro e w1 ⟨rfl,hB1⟩;have y1:=Lr.out w1 (hB.trans (hB1.mono hB.size))))
       go_roundw
       case rel=>exact⟨k+1,hlt,by go_num,by rw[HA.out];simp;omega,hB.trans (hB1.mono hB.size)⟩
       case measure=>simp[intOf];omega
      ·have e2:decide ((c.toNat:Int)≤57)=false:=by simp;omega
       rw[if_neg (by simp[d1,d2])] at ha
       have HA:=ah ha
       clear ha hkb h0
       go_wp2_with (go_at_call 126;go_must (refine(HM.out _).mono ?_;rintro e w1 ⟨rfl,hB1⟩;have y1:=Lr.out w1 (hB.trans (hB1.mono hB.size))))
       go_ret
       exact⟨by rw[HA.out];rfl,hB.trans (hB1.mono hB.size)⟩
     ·have e1:decide (48≤(c.toNat:Int))=false:=by simp;omega
      rw[if_neg (by simp[d1])] at ha
      have HA:=ah ha
      clear ha hkb h0
      go_wp2_with (go_at_call 126;go_must (refine(HM.out _).mono ?_;rintro e w1 ⟨rfl,hB1⟩;have y1:=Lr.out w1 (hB.trans (hB1.mono hB.size))))
      go_ret
      exact⟨by rw[HA.out];rfl,hB.trans (hB1.mono hB.size)⟩
  ·obtain rfl:k=n:=by omega
   rw[List.drop_eq_nil_of_le (by rw[HN.out];exact Nat.le_refl _),runFrom] at ha
   have HA:=ah ha
   clear ha
   go_wp2
   go_ret
   exact⟨by rw[HA.out];rfl,hB⟩
end
section
open Go.RowKit
def hexV(x:Nat):Option Nat:=if iq x then some (x - 48) else if 97≤x∧x≤102 then some (x - 87) else none
def JO(x:Nat):Int:=match hexV x with | some v=>v | none=>-1
theorem Oi{x v:Nat}(h:hexV x=some v):v<16:=by
 unfold hexV iq at h
 split at h
 ·rename_i h1;simp at h1;simp at h;omega
 ·split at h
  ·rename_i h1;simp at h;omega
  ·cases h
theorem Wi(x:Nat):(JO x=-1∧hexV x=none)∨∃ v:Nat,JO x=v∧hexV x=some v∧v<16:=by
 unfold JO
 cases h:hexV x with
 | none=>exact .inl ⟨rfl,rfl⟩
 | some v=>exact .inr ⟨v,rfl,rfl,Oi h⟩
theorem I7(x:Nat)(w:World)(hx:x<256):Calls Tryz.prog 236 #[.int .u8 x] w (aX w (.int .i64 (JO x))):=by
 unfold JO hexV iq
 by_cases a1:48≤x
 ·have e1:decide (48≤(x:Int))=true:=by simp;omega
  by_cases a2:x≤57
  ·have e2:decide ((x:Int)≤57)=true:=by simp;omega
   rw[if_pos (by simp[a1,a2])]
   have hw8:IntKind.u8.wrap ((x:Int) - 48)=((x - 48:Nat):Int):=by rw[IntKind.wrap_u8'];omega
   have hw0:IntKind.i64.wrap ((x - 48:Nat):Int)=((x - 48:Nat):Int):=IntWalk.i64_in _ (by omega)
   go_enter Tryz.func236,Tryz.ntmps236
   go_wp2
   go_ret
   exact⟨rfl,Below.refl _ _⟩
  ·have e2:decide ((x:Int)≤57)=false:=by simp;omega
   rw[if_neg (by simp;omega)]
   by_cases a3:97≤x
   ·have e3:decide (97≤(x:Int))=true:=by simp;omega
    by_cases a4:x≤102
    ·have e4:decide ((x:Int)≤102)=true:=by simp;omega
     rw[if_pos ⟨a3,a4⟩]
     have hw8:IntKind.u8.wrap ((x:Int) - 97)=((x - 97:Nat):Int):=by rw[IntKind.wrap_u8'];omega
     have hw0:IntKind.i64.wrap ((x - 97:Nat):Int)=((x - 97:Nat):Int):=IntWalk.i64_in _ (by omega)
     have hw1:IntKind.i64.wrap (((x - 97:Nat):Int)+10)=((x - 87:Nat):Int):=by rw[IntWalk.i64_in _ (by omega)];omega
     go_enter Tryz.func236,Tryz.ntmps236
     go_wp2
     go_ret
     exact⟨rfl,Below.refl _ _⟩
    ·have e4:decide ((x:Int)≤102)=false:=by simp;omega
     rw[if_neg (by omega)]
     go_enter Tryz.func236,Tryz.ntmps236
     go_wp2
     go_ret
     exact⟨rfl,Below.refl _ _⟩
   ·have e3:decide (97≤(x:Int))=false:=by simp;omega
    rw[if_neg (by omega)]
    go_enter Tryz.func236,Tryz.ntmps236
    go_wp2
    go_ret
    exact⟨rfl,Below.refl _ _⟩
 ·have e1:decide (48≤(x:Int))=false:=by simp;omega
  have e3:decide (97≤(x:Int))=false:=by simp;omega
  rw[if_neg (by simp;omega),if_neg (by omega)]
  go_enter Tryz.func236,Tryz.ntmps236
  go_wp2
  go_ret
  exact⟨rfl,Below.refl _ _⟩
def Dz(x:Nat):Bool:=iq x||((decide (97≤x)&&decide (x≤122))||(decide (65≤x)&&decide (x≤90)))
theorem ajT:∀ x:Nat,x<256→∃ y:Nat,bits BinOp.or IntKind.u8 (x:Int) 32=(y:Int)∧((decide (97≤x)&&decide (x≤122))||(decide (65≤x)&&decide (x≤90)))=(decide (97≤y)&&decide (y≤122))∧y<256:=by
 have h:(List.range 256).all (fun(x:Nat)=>bits BinOp.or IntKind.u8 (x:Int) 32==((bits BinOp.or IntKind.u8 (x:Int) 32).toNat:Int)&&((((decide (97≤x)&&decide (x≤122))||(decide (65≤x)&&decide (x≤90))))==(decide (97≤(bits BinOp.or IntKind.u8 (x:Int) 32).toNat)&&decide ((bits BinOp.or IntKind.u8 (x:Int) 32).toNat≤122)))&&decide ((bits BinOp.or IntKind.u8 (x:Int) 32).toNat<256))=true:=by decide +kernel
 intro x hx
 have h2:=List.all_eq_true.1 h x (by simpa using hx)
 simp only[Bool.and_eq_true,beq_iff_eq,decide_eq_true_eq] at h2
 exact⟨_,h2.1.1,h2.1.2,h2.2⟩
theorem oG(x:Nat)(w:World)(hx:x<256):Calls Tryz.prog 237 #[.int .u8 x] w (aX w (.bool (Dz x))):=by
 obtain⟨y,hy,hl,hy2⟩:=ajT x hx
 unfold Dz
 rw[hl]
 clear hl
 unfold iq
 have rest:(decide (48≤x)&&decide (x≤57))=false→Calls Tryz.prog 237 #[.int .u8 x] w (aX w (.bool (decide (97≤y)&&decide (y≤122)))):=by
  intro hn
  simp only[Bool.and_eq_false_iff,decide_eq_false_iff_not] at hn
  by_cases a1:48≤x
  ·have e1:decide (48≤(x:Int))=true:=by simp;omega
   have e2:decide ((x:Int)≤57)=false:=by simp;omega
   by_cases h1:97≤y
   ·have e3:decide (97≤(y:Int))=true:=by simp;omega
    clear hn
    go_enter Tryz.func237,Tryz.ntmps237
    go_wp2
    go_ret
    exact uD (by rw[Bool.eq_iff_iff];simp;omega)
   ·have e3:decide (97≤(y:Int))=false:=by simp;omega
    clear hn
    go_enter Tryz.func237,Tryz.ntmps237
    go_wp2
    go_ret
    exact uD (by rw[Bool.eq_iff_iff];simp;omega)
  ·have e1:decide (48≤(x:Int))=false:=by simp;omega
   by_cases h1:97≤y
   ·have e3:decide (97≤(y:Int))=true:=by simp;omega
    clear hn
    go_enter Tryz.func237,Tryz.ntmps237
    go_wp2
    go_ret
    exact uD (by rw[Bool.eq_iff_iff];simp;omega)
   ·have e3:decide (97≤(y:Int))=false:=by simp;omega
    clear hn
    go_enter Tryz.func237,Tryz.ntmps237
    go_wp2
    go_ret
    exact uD (by rw[Bool.eq_iff_iff];simp;omega)
 cases hd:(decide (48≤x)&&decide (x≤57)) with
 | false=>exact rest hd
 | true =>
  simp only[Bool.and_eq_true,decide_eq_true_eq] at hd
  have e1:decide (48≤(x:Int))=true:=by simp;omega
  have e2:decide ((x:Int)≤57)=true:=by simp;omega
  clear hd rest
  go_enter Tryz.func237,Tryz.ntmps237
  go_wp2
  go_ret
  exact⟨rfl,Below.refl _ _⟩
end
section
open Go.RowKit
def Ah(b o cap p:Nat):Option Addr:=if cap=p then some ⟨b,o,none⟩ else some ⟨b,o+p,none⟩
theorem Pm(b o cap p:Nat):∃ q,Ah b o cap p=some ⟨b,q,none⟩∧(p<cap→q=o+p):=by
 unfold Ah
 by_cases h:cap=p
 ·exact⟨o,by rw[if_pos h],by omega⟩
 ·exact⟨o+p,by rw[if_neg h],fun _=>rfl⟩
theorem ak.sub{α:Type}{f:α→Value}{w:World}{b o n cap:Nat}{xs:List α}(h:ak w (.slice (some ⟨b,o,none⟩) n cap) 1 (fun x=>[f x]) xs)(p r:Nat)(hr:p+r≤n) :
  ak w (.slice (Ah b o cap p) r (cap - p)) 1 (fun x=>[f x]) ((xs.drop p).take r):=by
 obtain⟨hlen,hcap,hcap',hcell⟩:=h.cellsA
 obtain⟨q,hq,ho⟩:=Pm b o cap p
 have hl:((xs.drop p).take r).length=r:=by rw[List.length_take,List.length_drop];omega
 refine⟨Ah b o cap p,b,q,cap - p,by rw[hl],by rw[hl];omega,by simp[maxLen];omega,.inl hq,fun i hi j u hu=>?_⟩
 rw[hl] at hi
 cases j with
 | succ j=>simp at hu
 | zero =>
  simp only[List.getElem?_cons_zero,Option.some.injEq] at hu
  subst hu
  have:=hcell (p+i) (by omega) w (Below.refl _ _)
  rw[Nat.mul_one,Nat.add_zero,ho (by omega),Nat.add_assoc,this]
  congr 2
  simp
end
section
open Go.RowKit
def uF(S j:Nat):List UInt8:=(ji j S).flatMap vG
theorem ZM(S j:Nat):(uF S j).length=8*j:=by
 unfold uF
 induction j with
 | zero=>rfl
 | succ j ih=>rw[xX,List.flatMap_append,List.length_append,ih];simp[vG];omega
def oH(w i:Nat):List UInt8:=(List.range i).map (nX w)
theorem RY(w i:Nat):oH w (i+1)=oH w i++[nX w i]:=by unfold oH;rw[List.range_succ,List.map_append];rfl
theorem XQ(S j:Nat):uF S (j+1)=uF S j++oH (dW S j) 8:=by
 unfold uF;rw[xX,List.flatMap_append];simp[vG,oH]
theorem ZN(S k:Nat)(h:k=0∨∃ j,k=j+1∧dW S j≠0):vH S k=k:=by
 rcases h with rfl | ⟨j,rfl,h⟩
 ·rfl
 ·rw[vH,if_neg h]
theorem ZO(S j:Nat)(h:dW S j=0):vH S (j+1)=vH S j:=by rw[vH,if_pos h]
theorem ZP(z i:Nat):IntKind.u8.wrap ((z:Int) / 2 ^ (8*i))=((nX z i).toNat:Nat):=by
 have e:((z:Int) / 2 ^ (8*i))=((z / 2 ^ (8*i):Nat):Int):=by simp
 rw[e]
 unfold nX
 rw[UInt8.toNat_ofNat',Nat.shiftRight_eq_div_pow,IntKind.wrap_u8]
 omega
theorem JQ:fG Tryz.prog 28 5 (.int .u8 0) 1 1:=⟨Tryz.underlying28,info_parts (by kernel_rfl),rfl,by decide⟩
theorem RZ(p g N S:Nat)(w:World)(hN:N≤1048576)(hB:fV w p g N S) :
  Calls Tryz.prog 198 #[.pointer (some ⟨p,0,none⟩)] w (aX w (sv (Jz (dh N) S))):=by
 have x1:w.cell? ⟨p,1,none⟩=some (.slice (some ⟨g,0,none⟩) (dh N) (dh N)):=hB.box.cell 1
 have hwd:=hB.words
 have hgl:=hwd.lt
 have hpl:=hB.box.lt
 have hm:dh N≤16384:=by unfold dh;omega
 have hkey:Jz (dh N) S=uF S (vH S (dh N)):=rfl
 rw[hkey]
 generalize dh N=m at *
 have hw:∀ j,j<m→w.cell? ⟨g,j,none⟩=some (.int .u64 (dW S j:Nat)):=fun j hj=>(hwd.cell _).trans (o8 _ _ _ hj)
 have HW:=ah hw
 clear hwd hB hkey hw
 obtain⟨ANS,hans⟩:∃ A,sv (uF S (vH S m))=A:=⟨_,rfl⟩
 rw[hans]
 have HA:=ah hans
 clear hans
 go_enter Tryz.func198,Tryz.ntmps198
 go_wp2
 go_loopw [3] (fun v wr=>∃ k:Nat,k≤m∧v=.int .i64 k∧vH S m=vH S k∧wr=w) (fun v _=>(intOf v).toNat)
 case atStart=>exact⟨m,Nat.le_refl _,rfl,rfl,rfl⟩
 case round =>
  obtain⟨k,hk,rfl,htop,hww⟩:=hrel
  subst wr
  have HT:=ah htop
  clear htop
  by_cases hgo:∃ j,k=j+1∧dW S j=0
  ·obtain⟨j,rfl,hz⟩:=hgo
   have c:=HW.out j (by omega)
   rw[hz] at c
   have e:((j+1:Nat):Int) - 1=(j:Int):=by omega
   have hst:=ZO S j hz
   have HS:=ah hst
   clear hst hz
   go_wp2
   exact⟨⟨j,by omega,rfl,by rw[HT.out,HS.out],trivial⟩,by simp[intOf]⟩
  ·have hstop:vH S k=k:=ZN S k (by
    cases k with
    | zero=>exact .inl rfl
    | succ j=>exact .inr ⟨j,rfl,fun h=>hgo ⟨j,rfl,h⟩⟩)
   rw[HT.out.trans hstop] at HA
   have hcase:(decide ((0:Int)<(k:Int))=false)∨(decide ((0:Int)<(k:Int))=true∧∃ z:Nat,w.cell? ⟨g,k - 1,none⟩=some (.int .u64 z)∧((z:Int)==0)=false):=by
    cases k with
    | zero=>exact .inl rfl
    | succ j =>
     refine .inr ⟨decide_eq_true (by omega),_,HW.out j (by omega),?_⟩
     have:dW S j≠0:=fun h=>hgo ⟨j,rfl,h⟩
     simp;omega
   clear hgo hstop HT
   have hk8:(8:Int)*(k:Int)=((8*k:Nat):Int):=by omega
   have hkt:((k:Int)).toNat=k:=by omega
   have hkm:(k:Int)≤(m:Int):=by omega
   have h0k:(0:Int)≤(k:Int):=by omega
   have HK8:=ah hk8
   clear hk8
   have hk1:0<k→(k:Int) - 1=((k - 1:Nat):Int):=by omega
   have hk2:0<k→((k - 1:Nat):Int)<(m:Int):=by omega
   rcases hcase with hc | ⟨hc,z,hz,hz0⟩
   ·have hkn:(k:Int)≤0:=by simp at hc;omega
    clear hk1 hk2
    go_wp2_with (first | (refine yX rfl 28 _ _ rfl JQ Dw (8*k) rfl (congrArg (Value.int .i64) HK8.out) (by omega) (by simp[maxLen];omega) w.heap.size (Nat.le_refl _) ?_;intro w1 ho hg;have hB1:Below w.heap.size w w1:=(Below.refl _ _).grown hg (Nat.le_refl _) (fun k hk=>by cases hk);have y1:w1.cell? ⟨p,1,none⟩=some (.slice (some ⟨g,0,none⟩) m m):=(hB1.cell hpl).trans x1) | simp only[hk1])
    clear y1 hg hc
    go_loopw [4,40] (fun v i wq=>∃ (j:Nat) (a:Option Addr) (q cap:Nat),j≤k∧i=.int .i64 j∧v=.slice a q cap∧Own wq w.heap.size 5 1 bQ (.slice a q cap) (uF S j)∧Below w.heap.size w wq) (fun _ i _=>k - (intOf i).toNat)
    case atStart=>exact⟨0,_,_,_,Nat.zero_le _,rfl,rfl,ho,hB1⟩
    case round =>
     clear ho hB1
     obtain⟨j,a,q,cap,hj,rfl,rfl,hown,hB⟩:=hrel
     obtain rfl:j=k:=by omega
     have hl:=hown.open.1
     have hconv:=FU (P:=Tryz.prog) (src:=28) (dst:=9) Tryz.underlying28 Tryz.underlying5 Tryz.underlying9 hl (hown.slice Dw)
     rw[HA.out] at hconv
     clear hl
     go_wp2
     go_ret
     exact⟨rfl,hB⟩
   ·have hkp:0<k:=by simp at hc;omega
    replace hk1:=hk1 hkp
    replace hk2:=hk2 hkp
    go_wp2_with (first | (refine yX rfl 28 _ _ rfl JQ Dw (8*k) rfl (congrArg (Value.int .i64) HK8.out) (by omega) (by simp[maxLen];omega) w.heap.size (Nat.le_refl _) ?_;intro w1 ho hg;have hB1:Below w.heap.size w w1:=(Below.refl _ _).grown hg (Nat.le_refl _) (fun k hk=>by cases hk);have y1:w1.cell? ⟨p,1,none⟩=some (.slice (some ⟨g,0,none⟩) m m):=(hB1.cell hpl).trans x1) | simp only[hk1])
    clear y1 hg hc
    go_loopw [4,40] (fun v i wq=>∃ (j:Nat) (a:Option Addr) (q cap:Nat),j≤k∧i=.int .i64 j∧v=.slice a q cap∧Own wq w.heap.size 5 1 bQ (.slice a q cap) (uF S j)∧Below w.heap.size w wq) (fun _ i _=>k - (intOf i).toNat)
    case atStart=>exact⟨0,_,_,_,Nat.zero_le _,rfl,rfl,ho,hB1⟩
    case round =>
     clear ho hB1
     obtain⟨j,a,q,cap,hj,rfl,rfl,hown,hB⟩:=hrel
     by_cases hlt:j<k
     ·have c0:wr.cell? ⟨g,j,none⟩=some (.int .u64 (dW S j:Nat)):=(hB.cell hgl).trans (HW.out j (by omega))
      have hsu:=XQ S j
      have hl:=ZM S j
      have EW:=ah hsu;have HL:=ah hl
      clear hsu hl
      have hjk:(j:Int)<(k:Int):=by omega
      generalize dW S j=u at *
      go_wp2
      go_loopw [4,44] (fun v i wt=>∃ (t:Nat) (a:Option Addr) (q cap:Nat),t≤8∧i=.int .i64 t∧v=.slice a q cap∧Own wt w.heap.size 5 1 bQ (.slice a q cap) (uF S j++oH u t)∧Below w.heap.size w wt) (fun _ i _=>8 - (intOf i).toNat)
      case atStart=>exact⟨0,a,q,cap,by omega,rfl,rfl,by rw[show oH u 0=[] from rfl,List.append_nil];exact hown,hB⟩
      case round =>
       clear hown hB c0
       obtain⟨t,a,q,cap,ht,rfl,rfl,hown,hB⟩:=hrel
       by_cases alU:t<8
       ·have hbv:=ZP u t
        have hbs:=RY u t
        have hbl:(oH u t).length=t:=by simp[oH]
        have h8n:((8:Int)*(t:Int)).toNat=8*t:=by omega
        have Si:=ah hbs;have HBL:=ah hbl
        clear hbs hbl
        generalize nX u t=x at *
        obtain⟨ys,hys⟩:∃ ys,uF S j++oH u t=ys:=⟨_,rfl⟩
        have hyl:ys.length=8*j+t:=by rw[←hys,List.length_append,HL.out,HBL.out]
        have hye:uF S j++oH u (t+1)=ys++[x]:=by rw[Si.out,←List.append_assoc,hys]
        rw[hys] at hown
        clear hys
        have hyb:ys.length≤131080:=by omega
        have hqy:=hown.open.1
        have hqb:q≤131080:=by omega
        clear hqy
        have HYL:=ah hyl;have HYE:=ah hye
        clear hyl hye
        go_wp2_with (at_builtin;go_must (refine eU rfl _ _ 28 rfl JQ Dw rfl (hown.alloc _) ⟨wr.heap.size,0,none⟩ 1 x rfl (dA wr [.int .u8 (x.toNat:Nat)] _) (by simp only[maxLen];omega) (by omega) (by have:=hB.size;simp only[World.size_alloc];omega) ?_;intro a2 cap2 W' hown' hg))
        have h7:=hB.alloc hB.size (.cells #[.int .u8 (x.toNat:Nat)] 5)
        exact⟨⟨t+1,a2,_,cap2,alU,by push_cast;rfl,rfl,by rw[HYE.out];exact hown',below_grown h7 (hown.alloc _) hg (Nat.le_refl _) h7.size⟩,by simp[intOf];omega⟩
       ·obtain rfl:t=8:=by omega
        go_wp2
        exact⟨⟨j+1,a,q,cap,hlt,by push_cast;rfl,rfl,by rw[EW.out];exact hown,hB⟩,by simp[intOf];omega⟩
     ·obtain rfl:j=k:=by omega
      have hl:=hown.open.1
      have hconv:=FU (P:=Tryz.prog) (src:=28) (dst:=9) Tryz.underlying28 Tryz.underlying5 Tryz.underlying9 hl (hown.slice Dw)
      rw[HA.out] at hconv
      clear hl
      go_wp2
      go_ret
      exact⟨rfl,hB⟩
end
section
open Go.RowKit
theorem sQ{a b:Nat}(_:a≤aH):addN a b≤aH:=by unfold addN;split <;> omega
theorem DC{a b:Nat}:mulN a b≤aH:=by
 unfold mulN
 split
 ·omega
 ·split
  ·omega
  ·rename_i h1 h2
   have hb:0<b:=by omega
   have h3:a*b≤aH / b*b:=Nat.mul_le_mul_right _ (by omega)
   exact Nat.le_trans h3 (Nat.div_mul_le_self _ _)
def Ai(l:List Nat):Nat:=l.foldl addN 0
theorem afZ(l:List Nat):Ai l≤aH:=by
 have:∀ (l:List Nat) (a:Nat),a≤aH→l.foldl addN a≤aH:=by
  intro l
  induction l with
  | nil=>intro a h;exact h
  | cons x l ih=>intro a h;exact ih _ (sQ h)
 exact this l 0 (by unfold aH;omega)
theorem ZQ(l:List Nat)(i:Nat)(h:i<l.length):Ai (l.take (i+1))=addN (Ai (l.take i)) l[i]:=by
 unfold Ai;rw[List.take_succ_eq_append_getElem h,List.foldl_append];rfl
abbrev aS(n:Nat):List Value:=[.int .i64 n]
theorem acM(a b bb:Nat)(w:World)(ha:a≤aH)(hb:b≤aH)(hB:Box w bb #[.int .i64 (aH:Nat)] 3) :
  Calls Tryz.prog 145 #[.int .i64 a,.int .i64 b,.pointer (some ⟨bb,0,none⟩)] w (aX w (.int .i64 (addN a b:Nat))):=by
 have c0:w.cell? ⟨bb,0,none⟩=some (.int .i64 1099511627776):=hB.cell 0
 unfold aH at ha hb
 clear hB
 by_cases h:aH - a<b
 ·have e:addN a b=aH:=by unfold addN;rw[if_pos h]
  rw[e]
  unfold aH at h ⊢
  have h2:(1099511627776:Int) - (a:Int)<(b:Int):=by omega
  clear e h
  go_enter Tryz.func145,Tryz.ntmps145
  go_wp2
  go_ret
  exact⟨rfl,Below.refl _ _⟩
 ·have e:addN a b=a+b:=by unfold addN;rw[if_neg h]
  rw[e]
  unfold aH at h
  have h2:¬ (1099511627776:Int) - (a:Int)<(b:Int):=by omega
  clear e h
  go_enter Tryz.func145,Tryz.ntmps145
  go_wp2
  go_ret
  exact⟨by simp,Below.refl _ _⟩
theorem fold_add(b o cap n bb:Nat)(l:List Nat)(w:World)(h:ak w (.slice (some ⟨b,o,none⟩) n cap) 1 aS l)(hl:∀ x∈l,x≤aH)(hB:Box w bb #[.int .i64 (aH:Nat)] 3) :
  Calls Tryz.prog 144 #[.int .i64 0,.slice (some ⟨b,o,none⟩) n cap,.func (.func 145) #[] #[.pointer (some ⟨bb,0,none⟩)]] w (aX w (.int .i64 (Ai l:Nat))):=by
 obtain⟨hn,hcap,hc63,hcell⟩:=ak.cellsA (f:=fun n:Nat=>Value.int .i64 n) h
 have HC:=ah hcell
 have HN:=ah hn
 have HL:=ah hl
 have hn63:n≤9223372036854775807:=by omega
 clear h hcell hn hcap hc63 hl
 go_enter Tryz.func144,Tryz.ntmps144
 go_wp2
 go_loopw [7,13] (fun v i wr=>∃ k:Nat,k≤n∧i=.int .i64 k∧v=.int .i64 (Ai (l.take k):Nat)∧Below w.heap.size w wr) (fun _ i _=>n - (intOf i).toNat)
 case atStart=>exact⟨0,Nat.zero_le _,rfl,rfl,Below.refl _ _⟩
 case round =>
  obtain⟨k,hk,rfl,rfl,hBl⟩:=hrel
  by_cases hlt:k<n
  ·have hk2:k<l.length:=by rw[←HN.out];exact hlt
   have y0:=HC.out k hk2 wr hBl
   have hx:=HL.out _ (List.getElem_mem hk2)
   have hst:=acM (Ai (l.take k)) l[k] bb wr (afZ _) hx (hB.kept hBl)
   rw[←ZQ l k hk2] at hst
   generalize l[k]=x at *
   generalize Ai (l.take k)=s at *
   have h0x:(0:Int)≤(x:Int):=by omega
   have hmx:max (x:Int) 0=(x:Int):=by omega
   have HS:=ah hst
   clear hst hx
   have hki:(k:Int)<(n:Int):=by omega
   have hk0:(0:Int)≤(k:Int):=by omega
   go_wp2_with (go_at_call 145;go_must (refine HS.out.mono ?_;rintro e w2 ⟨rfl,hb2⟩))
   exact⟨⟨k+1,hlt,by push_cast;rfl,rfl,hBl.trans (hb2.mono hBl.size)⟩,by simp[intOf];omega⟩
  ·obtain rfl:k=n:=by omega
   rw[List.take_of_length_le (by rw[HN.out];exact Nat.le_refl _)]
   clear hB
   go_wp2
   go_ret
   exact⟨rfl,hBl⟩
theorem xG(b o cap n:Nat)(l:List Nat)(w:World)(h:ak w (.slice (some ⟨b,o,none⟩) n cap) 1 aS l)(hl:∀ x∈l,x≤aH) :
  Calls Tryz.prog 106 #[.int .i64 (aH:Nat),.slice (some ⟨b,o,none⟩) n cap] w (aX w (.int .i64 (Ai l:Nat))):=by
 have hmf:∀ (fn:Fn) (first cap:Array Value) (w:World),(Instr.makeFunc fn first cap).run Tryz.prog w=.ok (.func fn first cap) w:=fun _ _ _ _=>rfl
 have hB0:=aj w (.cells #[.int .i64 (aH:Nat)] 3)
 have hf:=fold_add b o cap n w.heap.size l _ (h.kept hB0) hl (Box.new w _ _)
 have HF:=ah hf
 unfold aH at HF hB0 ⊢
 clear hf h hl
 go_enter Tryz.func106,Tryz.ntmps106
 go_wp2_with (go_at_call 144;go_must (refine HF.out.mono ?_;rintro e w2 ⟨rfl,hb2⟩))
 go_ret
 exact⟨rfl,hB0.trans (hb2.mono hB0.size)⟩
end
end Go.Proofs.YtaoinbjjolikhaaGreatDoor
