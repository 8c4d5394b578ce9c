/- The texts of N9, in few letters (mini.py). -/
import Derived.Shelf.Bytes.SlSmallAll
import Derived.Test.YtengfapcaaacaaaGreatDoorProg
import Derived.Test.YtengfapcaaacaaaGreatDoorM3
set_option linter.unusedVariables false
set_option linter.unusedSimpArgs false
set_option maxHeartbeats 800000
namespace Go.Proofs.YtengfapcaaacaaaGreatDoor
section
open Go.RowKit
def Q9(l:List Nat):ByteArray:=strOfNums (l.map fun(x:Nat)=>(x:Int))
theorem Ox{P:Program}{w:World}{src dst e:TypeId}(hs:P.underlying src=some (.slice e))(he:P.underlying e=some (.int .u8))(hd:P.underlying dst=some .string){a:Option Addr}{cap n:Nat}{xs:List Nat}(hn:n=xs.length)(h:ak w (.slice a n cap) 1 gY xs) :
  (convert src dst (.slice a n cap)).run P w=.ok (.string (Q9 xs)) w:=by
 subst hn
 obtain⟨a',b,o,cap',hv,hl,hc,ha,hx⟩:=h
 obtain⟨rfl,_,rfl⟩:=Value.slice.inj hv
 rcases ha with rfl | ⟨rfl,_⟩
 ·refine run_convert_bytes_arg w src e hs he b o xs.length cap (xs.map fun(x:Nat)=>(x:Int)) (by simp) (fun i hi=>?_) dst hd
  have:=hx i hi 0 _ rfl
  rw[Nat.mul_one,Nat.add_zero] at this
  rw[this]
  simp[List.getD,hi]
 ·exact run_convert_bytes_zero w src e hs he a cap dst hd
theorem lW{P:Program}{o:Oper}{a:Act}{w:World}(ty:TypeId)(x:Operand)(ho:o.op=.load ty x)(g:Nat)(hx:a.eval x=.pointer (some ⟨g,0,none⟩)){cs:Array Value}{E:Nat}(hb:Box w g cs E)
  {d:TypeDesc} (hu:P.underlying ty=some d) (hd:(match d with | .struct _ | .array _ _=>true | _=>false)=true) (hi:(P.info? ty).map (·.size)=some cs.size):(execOp a.eval o).run P w=.ok (.value (.agg cs)) w:=by
 unfold execOp
 simp only[ho,hx,Instr.loadAt,Instr.sureAddr,Sem.run_bind,Sem.run_pure,Result.andThen_ok,run_loadVar_row w g E ty cs (0,0) d hb hu hd hi]
end
section
open Go.RowKit
abbrev sv(l:List UInt8):Value:=.string ⟨l.toArray⟩
abbrev bK(x:UInt8):List Value:=[.int .u8 (x.toNat:Nat)]
abbrev encI(n:Int):List Value:=[.int .i64 n]
abbrev kV(l:List UInt8):List Value:=[sv l]
abbrev aci(v:Value):List Value:=[v]
theorem uM:fB bK 1:=⟨fun _=>rfl,fun x u hu=>by simp[bK] at hu;subst hu;rfl⟩
theorem uN:fB encI 1:=⟨fun _=>rfl,fun x u hu=>by simp[encI] at hu;subst hu;rfl⟩
theorem xw:fB kV 1:=⟨fun _=>rfl,fun x u hu=>by simp[kV] at hu;subst hu;rfl⟩
theorem Ny(a:List UInt8):(⟨a.toArray⟩:ByteArray).size=a.length:=by simp[ByteArray.size]
theorem acj{w:World}{v:Value}{xs:List UInt8}(h:ak w v 1 bK xs):ak w v 1 gY (xs.map fun x=>x.toNat):=by
 obtain⟨a,b,o,cap,hv,hl,hc,ha,hx⟩:=h
 refine⟨a,b,o,cap,by rw[List.length_map];exact hv,by rw[List.length_map];exact hl,hc,ha.imp id (fun⟨h1,h2⟩=>⟨by simp[h1],h2⟩),fun i hi j u hu=>?_⟩
 rw[List.length_map] at hi
 refine hx i hi j u ?_
 rw[List.getElem_map] at hu
 exact hu
theorem Xi(xs:List UInt8):Q9 (xs.map fun x=>x.toNat)=⟨xs.toArray⟩:=by
 unfold Q9 strOfNums
 simp only[List.map_map]
 congr 1
 congr 1
 conv=>rhs;rw[←List.map_id xs]
 exact List.map_congr_left fun x _=>by simp
theorem FH{P:Program}{w:World}{src dst e:TypeId}(hs:P.underlying src=some (.slice e))(he:P.underlying e=some (.int .u8))(hd:P.underlying dst=some .string){a:Option Addr}{cap n:Nat}{xs:List UInt8}(hn:n=xs.length)(h:ak w (.slice a n cap) 1 bK xs) :
  (convert src dst (.slice a n cap)).run P w=.ok (sv xs) w:=by
 have:=Ox hs he hd (xs:=xs.map fun x=>x.toNat) (by rw[List.length_map];exact hn) (acj h)
 rwa[Xi] at this
theorem ak.dh{α:Type}{f:α→Value}{w:World}{a:Option Addr}{n cap:Nat}{xs:List α}(h:ak w (.slice a n cap) 1 (fun x=>[f x]) xs) :
  ∃ b o,n=xs.length∧xs.length≤cap∧cap≤9223372036854775807∧(∀ i,i<xs.length→a=some ⟨b,o,none⟩) ∧
   ∀ i (h:i<xs.length) (w':World),Below w.heap.size w w'→w'.cell? ⟨b,o+i,none⟩=some (f xs[i]):=by
 obtain⟨b,o,h1,h2,h3,h4,h5⟩:=h.open
 refine⟨b,o,h1,h2,h3,h4,fun i hi w' hB=>?_⟩
 have:=h5 i hi 0 _ rfl
 rw[Nat.mul_one,Nat.add_zero] at this
 rw[hB.cell (World.block_lt_of_cell? w _ this)];exact this
theorem yP{α:Type}{enc:α→List Value}{size:Nat}{P:Program}{ops:Array Oper}{rest:List Oper}{o:Oper}{a:Act}{w:World}{Q:Exit→Act→World→Prop}(hgd:o.guard=none)(t:TypeId)(x y:Operand)(ho:o.op=.makeSlice t x y)
  {E:TypeId} {z:Value} {bytes:Nat} (hE:dQ P t E z size bytes) (he:fB enc size) (c:Nat) (hx:a.eval x=.int .i64 0) (hy:a.eval y=.int .i64 c) (hbytes:bytes*c≤281474976710656) (h63:c≤maxLen) (qB:Nat) (hb:qB≤w.heap.size)
  (h:∀ w1,Own w1 qB E size enc (.slice (some ⟨w.heap.size,0,none⟩) 0 c) ([]:List α)→w.grownBy w1 none→wpList P ops Q rest (a.put o.dst (.slice (some ⟨w.heap.size,0,none⟩) 0 c)) w1):wpList P ops Q (o::rest) a w:=by
 obtain⟨i,hi,hiz,his,hib⟩:=hE.info
 subst hib
 refine wpList_plain hgd fun K hK=>?_
 obtain⟨w1,hr,hown,hg⟩:=run_make_own (P:=P) w qB t E i z size hE.slice hi hiz his .i64 .i64 c hbytes h63 hb
 unfold Oper.wp execOp
 simp only[ho,hx,hy,Sem.run_bind,Sem.run_pure,Result.andThen_ok,hr,Oper.upon]
 exact hK _ _ (h _ (Own.ofRow (xs:=([]:List α)) hown he) hg)
end
section
open Go.RowKit
theorem uq{w:World}{a b:Bool}(h:a=b):aY w (.bool a) (.returned (.bool b)) w:=⟨by rw[h],Below.refl _ _⟩
theorem Xj{a b:Bool}(h:a=b):Ending.returned (.bool b)=.returned (.bool a):=by rw[h]
def pV(x:Nat):Bool:=x==95||(decide (97≤x)&&decide (x≤122))||(decide (65≤x)&&decide (x≤90))
def gV(x:Nat):Bool:=decide (48≤x)&&decide (x≤57)
def qV(x:Nat)(first:Bool):Bool:=pV x||(!first&&gV x)
theorem alI:∀ x:Nat,x<256→∃ y:Nat,bits BinOp.or IntKind.u8 (x:Int) 32=(y:Int)∧pV x=(x==95||(decide (97≤y)&&decide (y≤122)))∧y<256:=by
 have h:(List.range 256).all (fun(x:Nat)=>bits BinOp.or IntKind.u8 (x:Int) 32==((bits BinOp.or IntKind.u8 (x:Int) 32).toNat:Int)&&(pV x==(x==95||(decide (97≤(bits BinOp.or IntKind.u8 (x:Int) 32).toNat)&&decide ((bits BinOp.or IntKind.u8 (x:Int) 32).toNat≤122))))&&decide ((bits BinOp.or IntKind.u8 (x:Int) 32).toNat<256))=true:=by decide +kernel
 intro x hx
 have h2:=List.all_eq_true.1 h x (by simpa using hx)
 simp only[Bool.and_eq_true,beq_iff_eq,decide_eq_true_eq] at h2
 exact⟨_,h2.1.1,h2.1.2,h2.2⟩
theorem Rf(x:Nat)(h:gV x=true):pV x=false:=by
 unfold gV at h
 unfold pV
 rw[Bool.eq_false_iff]
 simp at h ⊢
 omega
def runFrom:Bool→List UInt8→Nat
 | _,[]=>0
 | first,c::r=>if qV c.toNat first then runFrom false r+1 else 0
theorem vI:∀ (b:Bool) (l:List UInt8),runFrom b l≤l.length
 | _,[]=>Nat.le_refl _
 | b,c::r=>by
  rw[runFrom];split
  ·have:=vI false r;simp;exact this
  ·simp
def qE(s:List UInt8):Bool:=!s.isEmpty&&decide (s.length≤32)&&(runFrom true s==s.length)
theorem IB(x:Nat)(w:World)(hx:x<256):Calls Tryz.prog 123 #[.int .u8 x] w (aY w (.bool (pV x))):=by
 obtain⟨y,hy,hl,hy2⟩:=alI x hx
 rw[hl]
 by_cases h0:x=95
 ·subst h0
  clear hl hy
  go_enter Tryz.func123,Tryz.ntmps123
  go_wp2
  go_ret
  exact⟨rfl,Below.refl _ _⟩
 ·have e0:((x:Int)==95)=false:=by simp;omega
  have e1:(x==95)=false:=by simp;omega
  rw[e1,Bool.false_or]
  clear e1 hl
  by_cases h1:97≤y
  ·have e2:decide (97≤(y:Int))=true:=by simp;omega
   go_enter Tryz.func123,Tryz.ntmps123
   go_wp2
   go_ret
   exact uq (by rw[Bool.eq_iff_iff];simp;omega)
  ·have e2:decide (97≤(y:Int))=false:=by simp;omega
   go_enter Tryz.func123,Tryz.ntmps123
   go_wp2
   go_ret
   exact uq (by rw[Bool.eq_iff_iff];simp;omega)
theorem Zg(x:Nat)(first:Bool)(w:World)(hx:x<256):Calls Tryz.prog 82 #[.int .u8 x,.bool first] w (aY w (.bool (qV x first))):=by
 cases hd:gV x with
 | true =>
  have hl:=Rf x hd
  have e:qV x first=!first:=by unfold qV;rw[hl,hd];simp
  rw[e]
  unfold gV at hd
  simp only[Bool.and_eq_true,decide_eq_true_eq] at hd
  obtain⟨d1,d2⟩:=hd
  have e1:decide (48≤(x:Int))=true:=by simp;omega
  have e2:decide ((x:Int)≤57)=true:=by simp;omega
  clear e hl
  go_enter Tryz.func82,Tryz.ntmps82
  go_wp2
  go_ret
  exact⟨rfl,Below.refl _ _⟩
 | false =>
  have e:qV x first=pV x:=by unfold qV;rw[hd];simp
  rw[e]
  unfold gV at hd
  simp only[Bool.and_eq_false_iff,decide_eq_false_iff_not] at hd
  have hd':x<48∨57<x:=by omega
  clear e hd
  unfold pV
  by_cases a1:97≤x
  ·have e1:decide (97≤(x:Int))=true:=by simp;omega
   have e2:decide (48≤(x:Int))=true:=by simp;omega
   have e3:decide ((x:Int)≤57)=false:=by simp;omega
   by_cases a2:x≤122
   ·have e4:decide ((x:Int)≤122)=true:=by simp;omega
    clear hd'
    go_enter Tryz.func82,Tryz.ntmps82
    go_wp2
    go_ret
    exact uq (by rw[Bool.eq_iff_iff];simp;omega)
   ·have e4:decide ((x:Int)≤122)=false:=by simp;omega
    have e5:decide (65≤(x:Int))=true:=by simp;omega
    have e6:decide ((x:Int)≤90)=false:=by simp;omega
    clear hd'
    go_enter Tryz.func82,Tryz.ntmps82
    go_wp2
    go_ret
    exact uq (by rw[Bool.eq_iff_iff];simp;omega)
  ·have e1:decide (97≤(x:Int))=false:=by simp;omega
   have key:∀ b:Bool,b=(decide (48≤(x:Int))&&decide ((x:Int)≤57))→b=false:=fun b hb=>by rw[hb,Bool.eq_false_iff];simp;omega
   clear key
   by_cases a2:65≤x
   ·have e2:decide (48≤(x:Int))=true:=by simp;omega
    have e3:decide ((x:Int)≤57)=false:=by simp;omega
    have e5:decide (65≤(x:Int))=true:=by simp;omega
    by_cases a3:x≤90
    ·have e6:decide ((x:Int)≤90)=true:=by simp;omega
     clear hd'
     go_enter Tryz.func82,Tryz.ntmps82
     go_wp2
     go_ret
     exact uq (by rw[Bool.eq_iff_iff];simp;omega)
    ·have e6:decide ((x:Int)≤90)=false:=by simp;omega
     clear hd'
     go_enter Tryz.func82,Tryz.ntmps82
     go_wp2
     go_ret
     exact uq (by rw[Bool.eq_iff_iff];simp;omega)
   ·have e5:decide (65≤(x:Int))=false:=by simp;omega
    by_cases a3:48≤x
    ·have e2:decide (48≤(x:Int))=true:=by simp;omega
     have e3:decide ((x:Int)≤57)=false:=by simp;omega
     clear hd'
     go_enter Tryz.func82,Tryz.ntmps82
     go_wp2
     go_ret
     exact uq (by rw[Bool.eq_iff_iff];simp;omega)
    ·have e2:decide (48≤(x:Int))=false:=by simp;omega
     clear hd'
     go_enter Tryz.func82,Tryz.ntmps82
     go_wp2
     go_ret
     exact uq (by rw[Bool.eq_iff_iff];simp;omega)
def tJ:Bool→List UInt8→Bool
 | _,[]=>true
 | first,c::r=>qV c.toNat first&&tJ false r
theorem IC:∀ (b:Bool) (l:List UInt8),(runFrom b l==l.length)=tJ b l
 | _,[]=>by simp[runFrom,tJ]
 | b,c::r=>by
  have ih:=IC false r
  rw[runFrom,tJ]
  cases qV c.toNat b with
  | true=>rw[if_pos rfl,Bool.true_and,←ih];simp[Bool.beq_eq_decide_eq]
  | false=>rw[if_neg (by simp)];simp
theorem Zh(s:List UInt8):qE s=(tJ true s&&(decide (1≤s.length)&&decide (s.length≤32))):=by
 unfold qE
 rw[IC]
 cases s with
 | nil=>simp
 | cons a r=>cases h:tJ true (a::r) <;> simp
theorem drop_at{α:Type}(l:List α)(k:Nat)(h:k<l.length):l.drop k=l[k]::l.drop (k+1):=(List.getElem_cons_drop h).symm
theorem Xk(s:List UInt8)(w:World)(hs:s.length≤9223372036854775807):Calls Tryz.prog 46 #[sv s] w (aY w (.bool (qE s))):=by
 obtain⟨n,hn⟩:∃ n,s.length=n:=⟨_,rfl⟩
 have hix:∀ (k:Nat) (h:k<(⟨s.toArray⟩:ByteArray).size) (h2:k<s.length),(⟨s.toArray⟩:ByteArray)[k]=s[k]:=fun k h h2=>rfl
 have e:=Zh s
 rw[hn] at e
 have hsz:(⟨s.toArray⟩:ByteArray).size=n:=by rw[Ny,hn]
 have HE:=ah e
 have KL:=ah hix
 have HN:=ah hn
 rw[hn] at hs
 clear e hix
 go_enter Tryz.func46,Tryz.ntmps46
 go_wp2
 go_loopw [3] (fun i wr=>∃ k:Nat,k≤n∧i=.int .i64 k∧tJ true s=tJ (k==0) (s.drop k)∧Below w.heap.size w wr) (fun i _=>n - (intOf i).toNat)
 case atStart=>exact⟨0,Nat.zero_le _,rfl,rfl,Below.refl _ _⟩
 case round =>
  obtain⟨k,hk,rfl,ha,hB⟩:=hrel
  by_cases hlt:k<n
  ·have hk2:k<s.length:=by rw[HN.out];exact hlt
   rw[drop_at s k hk2,tJ] at ha
   have hi:=fun h=>KL.out k h hk2
   have hm:=fun w=>Zg s[k].toNat (k==0) w s[k].toNat_lt
   have hk0:((k:Int)==0)=(k==0):=by rw[Bool.eq_iff_iff];simp
   generalize s[k]=c at *
   generalize hf:(k==0)=f at *
   cases wK:qV c.toNat f with
   | true =>
    rw[wK] at hm
    rw[wK,Bool.true_and] at ha
    have HM:=ah hm
    have HA:=ah ha
    clear hm ha wK hf
    go_wp2_with (go_at_call 82;go_must (refine(HM.out _).mono ?_;rintro e w1 ⟨rfl,hB1⟩))
    go_roundw
    case rel=>exact⟨k+1,hlt,by go_num,by rw[HA.out];rfl,hB.trans (hB1.mono hB.size)⟩
    case measure=>simp[intOf];omega
   | false =>
    rw[wK] at hm
    rw[wK,Bool.false_and] at ha
    have HM:=ah hm
    have HA:=ah ha
    clear hm ha wK hf
    go_wp2_with (go_at_call 82;go_must (refine(HM.out _).mono ?_;rintro e w1 ⟨rfl,hB1⟩))
    go_ret
    exact⟨by rw[HE.out,HA.out];rfl,hB.trans (hB1.mono hB.size)⟩
  ·obtain rfl:k=n:=by omega
   rw[List.drop_eq_nil_of_le (by rw[HN.out];exact Nat.le_refl _),tJ] at ha
   have HA:=ah ha
   clear ha
   by_cases h1:1≤k
   ·have e1:decide (1≤(k:Int))=true:=by simp;omega
    go_wp2
    go_ret
    exact⟨by rw[HE.out,HA.out];exact Xj (by rw[Bool.eq_iff_iff];simp;omega),hB⟩
   ·have e1:decide (1≤(k:Int))=false:=by simp;omega
    go_wp2
    go_ret
    exact⟨by rw[HE.out,HA.out];exact Xj (by rw[Bool.eq_iff_iff];simp;omega),hB⟩
theorem acn(s:List UInt8)(w:World)(hs:s.length≤9223372036854775807):Calls Tryz.prog 79 #[sv s] w (aY w (.int .i64 (runFrom true s:Nat))):=by
 obtain⟨n,hn⟩:∃ n,s.length=n:=⟨_,rfl⟩
 have hix:∀ (k:Nat) (h:k<(⟨s.toArray⟩:ByteArray).size) (h2:k<s.length),(⟨s.toArray⟩:ByteArray)[k]=s[k]:=fun k h h2=>rfl
 have hsz:(⟨s.toArray⟩:ByteArray).size=n:=by rw[Ny,hn]
 have KL:=ah hix
 have HN:=ah hn
 rw[hn] at hs
 clear hix
 go_enter Tryz.func79,Tryz.ntmps79
 go_wp2
 go_loopw [3] (fun i wr=>∃ k:Nat,k≤n∧i=.int .i64 k∧runFrom true s=k+runFrom (k==0) (s.drop k)∧Below w.heap.size w wr) (fun i _=>n - (intOf i).toNat)
 case atStart=>exact⟨0,Nat.zero_le _,rfl,by simp,Below.refl _ _⟩
 case round =>
  obtain⟨k,hk,rfl,ha,hB⟩:=hrel
  by_cases hlt:k<n
  ·have hk2:k<s.length:=by rw[HN.out];exact hlt
   rw[drop_at s k hk2,runFrom] at ha
   have hi:=fun h=>KL.out k h hk2
   have hm:=fun w=>IB s[k].toNat w s[k].toNat_lt
   have hc256:=s[k].toNat_lt
   generalize s[k]=c at *
   by_cases hl:pV c.toNat=true
   ·rw[hl] at hm
    have wK:qV c.toNat (k==0)=true:=by unfold qV;rw[hl];rfl
    rw[wK,if_pos rfl] at ha
    have HM:=ah hm
    have HA:=ah ha
    clear hm ha wK hl
    go_wp2_with (go_at_call 123;go_must (refine(HM.out _).mono ?_;rintro e w1 ⟨rfl,hB1⟩))
    go_roundw
    case rel=>exact⟨k+1,hlt,by go_num,by rw[HA.out];simp;omega,hB.trans (hB1.mono hB.size)⟩
    case measure=>simp[intOf];omega
   ·have hl:=Bool.eq_false_iff.2 hl
    rw[hl] at hm
    have wK:qV c.toNat (k==0)=(!(k==0)&&gV c.toNat):=by unfold qV;rw[hl];rfl
    rw[wK] at ha
    have HM:=ah hm
    unfold gV at ha
    clear hm wK hl
    by_cases h0:k=0
    ·subst h0
     have HA:=ah ha
     clear ha
     go_wp2_with (go_at_call 123;go_must (refine(HM.out _).mono ?_;rintro e w1 ⟨rfl,hB1⟩))
     go_ret
     exact⟨by rw[HA.out];rfl,hB.trans (hB1.mono hB.size)⟩
    ·have e0:decide (0<(k:Int))=true:=by simp;omega
     have e00:(0<k):=by omega
     have hkb:(k==0)=false:=by simp;omega
     rw[hkb] at ha
     by_cases d1:48≤c.toNat
     ·have e1:decide (48≤(c.toNat:Int))=true:=by simp;omega
      by_cases d2:c.toNat≤57
      ·have e2:decide ((c.toNat:Int)≤57)=true:=by simp;omega
       rw[if_pos (by simp[d1,d2])] at ha
       have HA:=ah ha
       clear ha hkb h0
       go_wp2_with (go_at_call 123;go_must (refine(HM.out _).mono ?_;rintro e w1 ⟨rfl,hB1⟩))
       go_roundw
       case rel=>exact⟨k+1,hlt,by go_num,by rw[HA.out];simp;omega,hB.trans (hB1.mono hB.size)⟩
       case measure=>simp[intOf];omega
      ·have e2:decide ((c.toNat:Int)≤57)=false:=by simp;omega
       rw[if_neg (by simp[d1,d2])] at ha
       have HA:=ah ha
       clear ha hkb h0
       go_wp2_with (go_at_call 123;go_must (refine(HM.out _).mono ?_;rintro e w1 ⟨rfl,hB1⟩))
       go_ret
       exact⟨by rw[HA.out];rfl,hB.trans (hB1.mono hB.size)⟩
     ·have e1:decide (48≤(c.toNat:Int))=false:=by simp;omega
      rw[if_neg (by simp[d1])] at ha
      have HA:=ah ha
      clear ha hkb h0
      go_wp2_with (go_at_call 123;go_must (refine(HM.out _).mono ?_;rintro e w1 ⟨rfl,hB1⟩))
      go_ret
      exact⟨by rw[HA.out];rfl,hB.trans (hB1.mono hB.size)⟩
  ·obtain rfl:k=n:=by omega
   rw[List.drop_eq_nil_of_le (by rw[HN.out];exact Nat.le_refl _),runFrom] at ha
   have HA:=ah ha
   clear ha
   go_wp2
   go_ret
   exact⟨by rw[HA.out];rfl,hB⟩
theorem Oy(s:List UInt8)(w:World)(hs:s.length≤9223372036854775807):Calls Tryz.prog 42 #[sv s] w (aY w (.bool (qE s))):=by
 have hr:=fun w=>acn s w hs
 have hle:=vI true s
 unfold qE
 generalize runFrom true s=r at *
 have HR:=ah hr
 clear hr
 cases s with
 | nil =>
  go_enter Tryz.func42,Tryz.ntmps42
  go_wp2_with (go_at_call 79;go_must (refine(HR.out _).mono ?_;rintro e w1 ⟨rfl,hB1⟩))
  go_ret
  exact⟨rfl,Below.refl _ _⟩
 | cons a l =>
  have e0:((!(a::l).isEmpty&&decide ((a::l).length≤32)&&r==(a::l).length):Bool)=(decide (l.length+1≤32)&&r==l.length+1):=rfl
  rw[e0]
  rw[List.length_cons] at hle hs
  generalize hm:l.length=m at *
  have HM:=ah hm
  have hle2:(r:Int)≤(m:Int)+1:=by omega
  by_cases h1:m+1≤32
  ·have e1:decide ((m:Int)+1≤32)=true:=by simp;omega
   go_enter Tryz.func42,Tryz.ntmps42
   go_wp2_with (go_at_call 79;go_must (refine(HR.out _).mono ?_;rintro e w1 ⟨rfl,hB1⟩))
   go_ret
   exact⟨Xj (by rw[Bool.eq_iff_iff];simp;omega),hB1⟩
  ·have e1:decide ((m:Int)+1≤32)=false:=by simp;omega
   go_enter Tryz.func42,Tryz.ntmps42
   go_wp2_with (go_at_call 79;go_must (refine(HR.out _).mono ?_;rintro e w1 ⟨rfl,hB1⟩))
   go_ret
   exact⟨Xj (by rw[Bool.eq_iff_iff];simp;omega),Below.refl _ _⟩
end
section
open Go.RowKit
theorem aco{P:Program}(w:World){src dst e:TypeId}(hs:P.underlying src=some .string)(hd:P.underlying dst=some (.slice e))(he:P.underlying e=some (.int .u8))(l:List UInt8)(hl:l.length≤9223372036854775807) :
  ∃ cap w',(convert src dst (sv l)).run P w=.ok (.slice (some ⟨w.heap.size,0,none⟩) l.length cap) w'∧Below w.heap.size w w'∧ak w' (.slice (some ⟨w.heap.size,0,none⟩) l.length cap) 1 bK l:=by
 have h:=run_bytes_of_string w src dst e ⟨l.toArray⟩ hs hd he
 rw[Ny] at h
 refine⟨_,_,h,(((Below.refl _ w).drew).alloc (by simp) _),_,w.heap.size,0,_,rfl,grownCap_ge _ _ _ _,grownCap_le_maxLen _ _ _ _ hl,.inl rfl,fun i hi j u hu=>?_⟩
 cases j with
 | succ j=>simp[bK] at hu
 | zero =>
  simp only[bK,List.getElem?_cons_zero,Option.some.injEq] at hu
  subst hu
  rw[Nat.mul_one,Nat.zero_add,Nat.add_zero]
  have:=bytesRow_at ⟨l.toArray⟩ (grownCap w l.length 0 e) i (by simpa using hi)
  rw[show w.heap.size=w.drew.heap.size from rfl,World.cell?_alloc_mark,Nat.add_zero,this]
  simp
def iW:List UInt8→Nat
 | []=>0
 | c::r=>if gV c.toNat then iW r+1 else 0
theorem Dk:∀ l:List UInt8,iW l≤l.length
 | []=>Nat.le_refl _
 | c::r=>by
  rw[iW];split
  ·have:=Dk r;simp;exact this
  ·simp
theorem ak.cellsA{α:Type}{f:α→Value}{w:World}{b o n cap:Nat}{xs:List α}(h:ak w (.slice (some ⟨b,o,none⟩) n cap) 1 (fun x=>[f x]) xs) :
  n=xs.length∧xs.length≤cap∧cap≤9223372036854775807∧∀ i (h:i<xs.length) (w':World),Below w.heap.size w w'→w'.cell? ⟨b,o+i,none⟩=some (f xs[i]):=by
 obtain⟨b',o',h1,h2,h3,h4,h5⟩:=h.dh
 refine⟨h1,h2,h3,fun i hi w' hb=>?_⟩
 obtain⟨rfl,rfl⟩:b=b'∧o=o':=by have:=h4 i hi;simpa using this
 exact h5 i hi w' hb
theorem afI(b o cap n:Nat)(l:List UInt8)(w:World)(h:ak w (.slice (some ⟨b,o,none⟩) n cap) 1 bK l) :
  Calls Tryz.prog 278 #[.slice (some ⟨b,o,none⟩) n cap,.int .i64 0] w (aY w (.int .i64 (iW l:Nat))):=by
 obtain⟨hlen,hcap,hcap',hcell⟩:=h.cellsA
 have hnn:n≤9223372036854775807:=by omega
 have hcc:n≤cap:=by omega
 have HC:=ah hcell
 have HL:=ah hlen
 clear hlen hcell h hcap
 go_enter Tryz.func278,Tryz.ntmps278
 go_wp2
 go_loopw [5,12] (fun v i wr=>∃ k:Nat,k≤n∧v=.int .i64 k∧i=.int .i64 k∧iW l=k+iW (l.drop k)∧Below w.heap.size w wr) (fun _ i _=>n - (intOf i).toNat)
 case atStart=>exact⟨0,Nat.zero_le _,rfl,rfl,by simp,Below.refl _ _⟩
 case round =>
  obtain⟨k,hk,rfl,rfl,hr,hB⟩:=hrel
  by_cases hlt:k<n
  ·have hk2:k<l.length:=by rw[←HL.out];exact hlt
   have c0:=HC.out k hk2 wr hB
   rw[drop_at l k hk2,iW] at hr
   generalize l[k]=c at *
   have hc256:=c.toNat_lt
   unfold gV at hr
   by_cases d1:c.toNat<48
   ·have e1:decide ((c.toNat:Int)<48)=true:=by simp;omega
    rw[if_neg (by simp;omega)] at hr
    have HR:=ah hr
    clear hr
    go_wp2
    go_ret
    exact⟨by rw[HR.out];rfl,hB⟩
   ·have e1:decide ((c.toNat:Int)<48)=false:=by simp;omega
    by_cases d2:57<c.toNat
    ·have e2:decide (57<(c.toNat:Int))=true:=by simp;omega
     rw[if_neg (by simp;omega)] at hr
     have HR:=ah hr
     clear hr
     go_wp2
     go_ret
     exact⟨by rw[HR.out];rfl,hB⟩
    ·have e2:decide (57<(c.toNat:Int))=false:=by simp;omega
     rw[if_pos (by simp;omega)] at hr
     have HR:=ah hr
     clear hr
     go_wp2
     go_roundw
     case rel=>exact⟨k+1,hlt,by go_num,by go_num,by rw[HR.out];omega,hB⟩
     case measure=>simp[intOf];omega
  ·obtain rfl:k=n:=by omega
   rw[List.drop_eq_nil_of_le (by rw[←HL.out];exact Nat.le_refl _),iW] at hr
   have HR:=ah hr
   clear hr
   go_wp2
   go_ret
   exact⟨by rw[HR.out];rfl,hB⟩
def qW(most:Nat):Nat→List UInt8→Option Nat
 | v,[]=>some v
 | v,c::r=>if (most - (c.toNat - 48)) / 10<v then none else qW most (v*10+(c.toNat - 48)) r
theorem Vy(most:Nat):∀ (l:List UInt8) (v x:Nat),(∀ c∈l,gV c.toNat=true)→v≤most→9≤most→qW most v l=some x→x≤most
 | [],v,x,_,h,_,e=>by simp[qW] at e;omega
 | c::r,v,x,hd,h,h9,e=>by
  rw[qW] at e
  split at e
  ·cases e
  ·have hc:=hd c (by simp)
   unfold gV at hc
   simp only[Bool.and_eq_true,decide_eq_true_eq] at hc
   exact Vy most r _ x (fun y hy=>hd y (by simp[hy])) (by omega) h9 e
theorem Zi(b o cap n most:Nat)(l:List UInt8)(w:World)(h:ak w (.slice (some ⟨b,o,none⟩) n cap) 1 bK l)(hd:∀ c∈l,gV c.toNat=true)(hm:9≤most)(hm2:most≤9223372036854775807) :
  Calls Tryz.prog 296 #[.slice (some ⟨b,o,none⟩) n cap,.int .i64 most] w (aY w (match qW most 0 l with | some x=>.tuple #[.int .i64 (x:Nat),.bool true] | none=>.tuple #[.int .i64 0,.bool false])):=by
 obtain⟨hlen,hcap,hcap',hcell⟩:=h.cellsA
 have hnn:n≤9223372036854775807:=by omega
 have HC:=ah hcell
 have HL:=ah hlen
 have HD:=ah hd
 clear hlen hcell h hcap hd
 generalize hg:(match qW most 0 l with | some x=>Value.tuple #[.int .i64 (x:Nat),.bool true] | none=>.tuple #[.int .i64 0,.bool false])=res
 have HG:=ah hg
 clear hg
 go_enter Tryz.func296,Tryz.ntmps296
 go_wp2
 go_loopw [6,12] (fun v i wr=>∃ k x:Nat,k≤n∧x≤most∧v=.int .i64 x∧i=.int .i64 k∧qW most 0 l=qW most x (l.drop k)∧Below w.heap.size w wr) (fun _ i _=>n - (intOf i).toNat)
 case atStart=>exact⟨0,0,Nat.zero_le _,Nat.zero_le _,rfl,rfl,by simp,Below.refl _ _⟩
 case round =>
  obtain⟨k,x,hk,hx,rfl,rfl,hr,hB⟩:=hrel
  by_cases hlt:k<n
  ·have hk2:k<l.length:=by rw[←HL.out];exact hlt
   have c0:=HC.out k hk2 wr hB
   have hdc:=HD.out _ (List.getElem_mem hk2)
   rw[drop_at l k hk2,qW] at hr
   generalize l[k]=c at *
   unfold gV at hdc
   simp only[Bool.and_eq_true,decide_eq_true_eq] at hdc
   obtain⟨d,hdd⟩:∃ d,c.toNat=d+48:=⟨c.toNat - 48,by omega⟩
   rw[hdd] at c0 hr hdc
   have hw8:IntKind.u8.wrap (((d+48:Nat):Int) - 48)=(d:Int):=by rw[IntKind.wrap_u8'];omega
   have hw0:IntKind.i64.wrap (d:Int)=(d:Int):=IntWalk.i64_in _ (by omega)
   have hw1:IntKind.i64.wrap ((most:Int) - (d:Int))=((most - d:Nat):Int):=by rw[IntWalk.i64_in _ (by omega)];omega
   have hw2:IntKind.i64.wrap (((most - d:Nat):Int))=((most - d:Nat):Int):=IntWalk.i64_in _ (by omega)
   have hq1:((most - d:Nat):Int).tdiv 10=(((most - d) / 10:Nat):Int):=by rw[Int.tdiv_eq_ediv_of_nonneg (by omega)];omega
   have hq2:((most - d:Nat):Int) / 10=(((most - d) / 10:Nat):Int):=by omega
   have hw3:IntKind.i64.wrap (((most - d) / 10:Nat):Int)=(((most - d) / 10:Nat):Int):=IntWalk.i64_in _ (by omega)
   have e3:decide ((most:Int)<(d:Int))=false:=by simp;omega
   rw[show d+48 - 48=d by omega] at hr
   generalize hqq:(most - d) / 10=q at *
   by_cases d1:q<x
   ·have e1:decide ((q:Int)<(x:Int))=true:=by simp;omega
    rw[if_pos d1] at hr
    have HR:=ah hr
    have HQ:=ah hqq
    clear hr hqq hdd
    go_wp2
    go_ret2
    exact⟨by rw[←HG.out,HR.out];rfl,hB⟩
   ·have e1:decide ((q:Int)<(x:Int))=false:=by simp;omega
    rw[if_neg d1] at hr
    have hle:x*10+d≤most:=by omega
    have hw4:IntKind.i64.wrap ((x:Int)*10)=(x:Int)*10:=IntWalk.i64_in _ (by omega)
    have hw5:IntKind.i64.wrap ((x:Int)*10+(d:Int))=((x*10+d:Nat):Int):=by rw[IntWalk.i64_in _ (by omega)];omega
    have HR:=ah hr
    have Vx:=ah hle
    have HQ:=ah hqq
    clear hr hqq hdd hle
    go_wp2
    go_roundw
    case rel=>exact⟨k+1,x*10+d,hlt,Vx.out,by go_num,by go_num,HR.out,hB⟩
    case measure=>simp[intOf];omega
  ·obtain rfl:k=n:=by omega
   rw[List.drop_eq_nil_of_le (by rw[←HL.out];exact Nat.le_refl _),qW] at hr
   have HR:=ah hr
   clear hr
   go_wp2
   go_ret2
   exact⟨by rw[←HG.out,HR.out];rfl,hB⟩
def H8(s:List UInt8):Bool:=!(iW s==0)&&(!decide (iW s<s.length)&&!(s.getD 0 0==48&&decide (1<iW s)))
theorem FI{s:List UInt8}(h:H8 s=true):∀ c∈s,gV c.toNat=true:=by
 have key:∀ l:List UInt8,iW l=l.length→∀ c∈l,gV c.toNat=true:=by
  intro l
  induction l with
  | nil=>simp
  | cons a r ih =>
   intro h c hc
   rw[iW] at h
   split at h
   ·rename_i ha
    rcases List.mem_cons.1 hc with rfl | hc
    ·exact ha
    ·exact ih (by simpa using h) c hc
   ·simp at h
 unfold H8 at h
 simp only[Bool.and_eq_true,Bool.not_eq_true',decide_eq_false_iff_not] at h
 exact key s (by have:=Dk s;omega)
def Xl(most:Nat)(s:List UInt8):Value:=if H8 s then (match qW most 0 s with | some x=>.tuple #[.int .i64 (x:Nat),.int .i64 0] | none=>.tuple #[.int .i64 0,.int .i64 2]) else .tuple #[.int .i64 0,.int .i64 3]
theorem acp(s:List UInt8)(most:Nat)(w:World)(hs:s.length≤9223372036854775807)(hm:9≤most)(hm2:most≤9223372036854775807):Calls Tryz.prog 279 #[sv s,.int .i64 most] w (aY w (Xl most s)):=by
 obtain⟨cap,w2,hcv,hb2,hsl⟩:=aco (P:=Tryz.prog) (src:=9) (dst:=35) w Tryz.underlying9 Tryz.underlying35 Tryz.underlying5 s hs
 obtain⟨hlen,hcap,hcap',hcell⟩:=hsl.cellsA
 have hrun:=fun w3 hb3=>afI _ _ _ _ s w3 (hsl.kept (w':=w3) hb3)
 have hval:=fun hd w3 hb3=>Zi _ _ _ _ most s w3 (hsl.kept (w':=w3) hb3) hd hm hm2
 have hle:=Dk s
 have hfd:=@FI s
 unfold Xl
 unfold H8 at hfd ⊢
 obtain⟨n,hn⟩:∃ n,s.length=n:=⟨_,rfl⟩
 rw[hn] at hcv hrun hval hle hcap hs hfd ⊢
 generalize iW s=r at *
 have zX:=ah hrun
 have agT:=ah hval
 have hg0:∀ h:0<s.length,s.getD 0 0=s[0]:=fun h=>by simp[List.getD_eq_getElem?_getD,h]
 have HC:=ah hcell
 have HG:=ah hg0
 have HN:=ah hn
 have Rh:=ah hfd
 clear hrun hval hsl hcell hg0 hlen hfd hn
 by_cases h0:r=0
 ·subst h0
  rw[if_neg (by simp)]
  clear hm
  go_enter Tryz.func279,Tryz.ntmps279
  go_wp2_with (go_at_call 278;go_must (refine(zX.out _ (Below.refl _ _)).mono ?_;rintro e w3 ⟨rfl,hB3⟩))
  go_ret2
  exact⟨rfl,hb2.trans (hB3.mono hb2.size)⟩
 ·have e0:((r:Int)==0)=false:=by simp;omega
  have e0':(r==0)=false:=by simp;omega
  by_cases h1:r<n
  ·have e1:decide ((r:Int)<(n:Int))=true:=by simp;omega
   rw[if_neg (by simp[h1])]
   clear hm
   go_enter Tryz.func279,Tryz.ntmps279
   go_wp2_with (go_at_call 278;go_must (refine(zX.out _ (Below.refl _ _)).mono ?_;rintro e w3 ⟨rfl,hB3⟩))
   go_ret2
   exact⟨rfl,hb2.trans (hB3.mono hb2.size)⟩
  ·have e1:decide ((r:Int)<(n:Int))=false:=by simp;omega
   have hn0:0<s.length:=by rw[HN.out];omega
   have c0:=fun w3 hb3=>HC.out 0 hn0 w3 hb3
   have hgd:=HG.out hn0
   rw[hgd] at Rh ⊢
   rw[Nat.add_zero] at c0
   generalize s[0]=c at *
   have C0:=ah c0
   clear c0 hgd hm
   have hcb:(c==48)=((c.toNat:Int)==48):=by
    rw[Bool.eq_iff_iff];simp only[beq_iff_eq]
    constructor
    ·rintro rfl;rfl
    ·intro h;exact UInt8.toNat_inj.1 (by simpa using Int.ofNat_inj.1 h)
   rw[hcb] at Rh ⊢
   clear hcb
   cases hc:((c.toNat:Int)==48) with
   | false =>
    have hd:=Rh.out (by rw[hc];simp;omega)
    have hval:=agT.out hd
    rw[if_pos (by simp;omega)]
    generalize qW most 0 s=v at *
    have HV:=ah hval
    clear hd hval Rh
    cases v with
    | none =>
     go_enter Tryz.func279,Tryz.ntmps279
     go_wp2_with (first | (go_at_call 278;go_must (refine(zX.out _ (Below.refl _ _)).mono ?_;rintro e w3 ⟨rfl,hB3⟩;have c0:=C0.out _ hB3)) | (go_at_call 296;go_must (refine(HV.out _ hB3).mono ?_;rintro e w4 ⟨rfl,hB4⟩;have bF:=hB3.trans (hB4.mono hB3.size))))
     go_ret2
     exact⟨rfl,hb2.trans (bF.mono hb2.size)⟩
    | some x =>
     go_enter Tryz.func279,Tryz.ntmps279
     go_wp2_with (first | (go_at_call 278;go_must (refine(zX.out _ (Below.refl _ _)).mono ?_;rintro e w3 ⟨rfl,hB3⟩;have c0:=C0.out _ hB3)) | (go_at_call 296;go_must (refine(HV.out _ hB3).mono ?_;rintro e w4 ⟨rfl,hB4⟩;have bF:=hB3.trans (hB4.mono hB3.size))))
     go_ret2
     exact⟨rfl,hb2.trans (bF.mono hb2.size)⟩
   | true =>
    by_cases h2:1<r
    ·have e2:decide (1<(r:Int))=true:=by simp;omega
     rw[if_neg (by simp[h2])]
     clear Rh
     go_enter Tryz.func279,Tryz.ntmps279
     go_wp2_with (first | (go_at_call 278;go_must (refine(zX.out _ (Below.refl _ _)).mono ?_;rintro e w3 ⟨rfl,hB3⟩;have c0:=C0.out _ hB3)) | (go_at_call 296;go_must (refine(HV.out _ hB3).mono ?_;rintro e w4 ⟨rfl,hB4⟩;have bF:=hB3.trans (hB4.mono hB3.size))))
     go_ret2
     exact⟨rfl,hb2.trans (hB3.mono hb2.size)⟩
    ·have e2:decide (1<(r:Int))=false:=by simp;omega
     have hd:=Rh.out (by rw[hc];simp;omega)
     have hval:=agT.out hd
     rw[if_pos (by simp;omega)]
     generalize qW most 0 s=v at *
     have HV:=ah hval
     clear hd hval Rh
     cases v with
     | none =>
      go_enter Tryz.func279,Tryz.ntmps279
      go_wp2_with (first | (go_at_call 278;go_must (refine(zX.out _ (Below.refl _ _)).mono ?_;rintro e w3 ⟨rfl,hB3⟩;have c0:=C0.out _ hB3)) | (go_at_call 296;go_must (refine(HV.out _ hB3).mono ?_;rintro e w4 ⟨rfl,hB4⟩;have bF:=hB3.trans (hB4.mono hB3.size))))
      go_ret2
      exact⟨rfl,hb2.trans (bF.mono hb2.size)⟩
     | some x =>
      go_enter Tryz.func279,Tryz.ntmps279
      go_wp2_with (first | (go_at_call 278;go_must (refine(zX.out _ (Below.refl _ _)).mono ?_;rintro e w3 ⟨rfl,hB3⟩;have c0:=C0.out _ hB3)) | (go_at_call 296;go_must (refine(HV.out _ hB3).mono ?_;rintro e w4 ⟨rfl,hB4⟩;have bF:=hB3.trans (hB4.mono hB3.size))))
      go_ret2
      exact⟨rfl,hb2.trans (bF.mono hb2.size)⟩
end
section
open Go.RowKit
theorem Zj(b o n cap:Nat)(s:List UInt8)(w:World)(h:ak w (.slice (some ⟨b,o,none⟩) n cap) 1 bK s):Calls Tryz.prog 133 #[.slice (some ⟨b,o,none⟩) n cap] w (aY w (.int .i64 (runFrom true s:Nat))):=by
 obtain⟨hn,hcap,hcap2,hc⟩:=h.cellsA
 have HC:=ah hc
 have HN:=ah hn.symm
 have hn63:n≤9223372036854775807:=by omega
 clear h hc hn hcap hcap2
 go_enter Tryz.func133,Tryz.ntmps133
 go_wp2
 go_loopw [3] (fun i wr=>∃ k:Nat,k≤n∧i=.int .i64 k∧runFrom true s=k+runFrom (k==0) (s.drop k)∧Below w.heap.size w wr) (fun i _=>n - (intOf i).toNat)
 case atStart=>exact⟨0,Nat.zero_le _,rfl,by simp,Below.refl _ _⟩
 case round =>
  obtain⟨k,hk,rfl,ha,hB⟩:=hrel
  by_cases hlt:k<n
  ·have hk2:k<s.length:=by rw[HN.out];exact hlt
   rw[drop_at s k hk2,runFrom] at ha
   have hi:=HC.out k hk2
   have hm:=fun w=>IB s[k].toNat w s[k].toNat_lt
   have hc256:=s[k].toNat_lt
   have y0:=hi wr hB
   have KL:=ah hi
   clear hi
   have hkn:(k:Int)<(n:Int):=by omega
   have apL:(0:Int)≤(k:Int):=by omega
   generalize s[k]=c at *
   by_cases hl:pV c.toNat=true
   ·rw[hl] at hm
    have wK:qV c.toNat (k==0)=true:=by unfold qV;rw[hl];rfl
    rw[wK,if_pos rfl] at ha
    have HM:=ah hm
    have HA:=ah ha
    clear hm ha wK hl
    go_wp2_with (go_at_call 123;go_must (refine(HM.out _).mono ?_;rintro e w1 ⟨rfl,hB1⟩;have y1:=KL.out w1 (hB.trans (hB1.mono hB.size))))
    go_roundw
    case rel=>exact⟨k+1,hlt,by go_num,by rw[HA.out];simp;omega,hB.trans (hB1.mono hB.size)⟩
    case measure=>simp[intOf];omega
   ·have hl:=Bool.eq_false_iff.2 hl
    rw[hl] at hm
    have wK:qV c.toNat (k==0)=(!(k==0)&&gV c.toNat):=by unfold qV;rw[hl];rfl
    rw[wK] at ha
    have HM:=ah hm
    unfold gV at ha
    clear hm wK hl
    by_cases h0:k=0
    ·subst h0
     rw[Nat.add_zero] at y0
     have HA:=ah ha
     clear ha
     go_wp2_with (go_at_call 123;go_must (refine(HM.out _).mono ?_;rintro e w1 ⟨rfl,hB1⟩;have y1:=KL.out w1 (hB.trans (hB1.mono hB.size))))
     go_ret
     exact⟨by rw[HA.out];rfl,hB.trans (hB1.mono hB.size)⟩
    ·have e0:decide (0<(k:Int))=true:=by simp;omega
     have e00:(0<k):=by omega
     have hkb:(k==0)=false:=by simp;omega
     rw[hkb] at ha
     by_cases d1:48≤c.toNat
     ·have e1:decide (48≤(c.toNat:Int))=true:=by simp;omega
      by_cases d2:c.toNat≤57
      ·have e2:decide ((c.toNat:Int)≤57)=true:=by simp;omega
       rw[if_pos (by simp[d1,d2])] at ha
       have HA:=ah ha
       clear ha hkb h0
       go_wp2_with (go_at_call 123;go_must (refine(HM.out _).mono ?_;rintro e w1 ⟨rfl,hB1⟩;have y1:=KL.out w1 (hB.trans (hB1.mono hB.size))))
       go_roundw
       case rel=>exact⟨k+1,hlt,by go_num,by rw[HA.out];simp;omega,hB.trans (hB1.mono hB.size)⟩
       case measure=>simp[intOf];omega
      ·have e2:decide ((c.toNat:Int)≤57)=false:=by simp;omega
       rw[if_neg (by simp[d1,d2])] at ha
       have HA:=ah ha
       clear ha hkb h0
       go_wp2_with (go_at_call 123;go_must (refine(HM.out _).mono ?_;rintro e w1 ⟨rfl,hB1⟩;have y1:=KL.out w1 (hB.trans (hB1.mono hB.size))))
       go_ret
       exact⟨by rw[HA.out];rfl,hB.trans (hB1.mono hB.size)⟩
     ·have e1:decide (48≤(c.toNat:Int))=false:=by simp;omega
      rw[if_neg (by simp[d1])] at ha
      have HA:=ah ha
      clear ha hkb h0
      go_wp2_with (go_at_call 123;go_must (refine(HM.out _).mono ?_;rintro e w1 ⟨rfl,hB1⟩;have y1:=KL.out w1 (hB.trans (hB1.mono hB.size))))
      go_ret
      exact⟨by rw[HA.out];rfl,hB.trans (hB1.mono hB.size)⟩
  ·obtain rfl:k=n:=by omega
   rw[List.drop_eq_nil_of_le (by rw[HN.out];exact Nat.le_refl _),runFrom] at ha
   have HA:=ah ha
   clear ha
   go_wp2
   go_ret
   exact⟨by rw[HA.out];rfl,hB⟩
end
section
open Go.RowKit
def hexV(x:Nat):Option Nat:=if gV x then some (x - 48) else if 97≤x∧x≤102 then some (x - 87) else none
def Js(x:Nat):Int:=match hexV x with | some v=>v | none=>-1
theorem Nz{x v:Nat}(h:hexV x=some v):v<16:=by
 unfold hexV gV at h
 split at h
 ·rename_i h1;simp at h1;simp at h;omega
 ·split at h
  ·rename_i h1;simp at h;omega
  ·cases h
theorem VA(x:Nat):(Js x=-1∧hexV x=none)∨∃ v:Nat,Js x=v∧hexV x=some v∧v<16:=by
 unfold Js
 cases h:hexV x with
 | none=>exact .inl ⟨rfl,rfl⟩
 | some v=>exact .inr ⟨v,rfl,rfl,Nz h⟩
theorem IE(x:Nat)(w:World)(hx:x<256):Calls Tryz.prog 292 #[.int .u8 x] w (aY w (.int .i64 (Js x))):=by
 unfold Js hexV gV
 by_cases a1:48≤x
 ·have e1:decide (48≤(x:Int))=true:=by simp;omega
  by_cases a2:x≤57
  ·have e2:decide ((x:Int)≤57)=true:=by simp;omega
   rw[if_pos (by simp[a1,a2])]
   have hw8:IntKind.u8.wrap ((x:Int) - 48)=((x - 48:Nat):Int):=by rw[IntKind.wrap_u8'];omega
   have hw0:IntKind.i64.wrap ((x - 48:Nat):Int)=((x - 48:Nat):Int):=IntWalk.i64_in _ (by omega)
   go_enter Tryz.func292,Tryz.ntmps292
   go_wp2
   go_ret
   exact⟨rfl,Below.refl _ _⟩
  ·have e2:decide ((x:Int)≤57)=false:=by simp;omega
   rw[if_neg (by simp;omega)]
   by_cases a3:97≤x
   ·have e3:decide (97≤(x:Int))=true:=by simp;omega
    by_cases a4:x≤102
    ·have e4:decide ((x:Int)≤102)=true:=by simp;omega
     rw[if_pos ⟨a3,a4⟩]
     have hw8:IntKind.u8.wrap ((x:Int) - 97)=((x - 97:Nat):Int):=by rw[IntKind.wrap_u8'];omega
     have hw0:IntKind.i64.wrap ((x - 97:Nat):Int)=((x - 97:Nat):Int):=IntWalk.i64_in _ (by omega)
     have hw1:IntKind.i64.wrap (((x - 97:Nat):Int)+10)=((x - 87:Nat):Int):=by rw[IntWalk.i64_in _ (by omega)];omega
     go_enter Tryz.func292,Tryz.ntmps292
     go_wp2
     go_ret
     exact⟨rfl,Below.refl _ _⟩
    ·have e4:decide ((x:Int)≤102)=false:=by simp;omega
     rw[if_neg (by omega)]
     go_enter Tryz.func292,Tryz.ntmps292
     go_wp2
     go_ret
     exact⟨rfl,Below.refl _ _⟩
   ·have e3:decide (97≤(x:Int))=false:=by simp;omega
    rw[if_neg (by omega)]
    go_enter Tryz.func292,Tryz.ntmps292
    go_wp2
    go_ret
    exact⟨rfl,Below.refl _ _⟩
 ·have e1:decide (48≤(x:Int))=false:=by simp;omega
  have e3:decide (97≤(x:Int))=false:=by simp;omega
  rw[if_neg (by simp;omega),if_neg (by omega)]
  go_enter Tryz.func292,Tryz.ntmps292
  go_wp2
  go_ret
  exact⟨rfl,Below.refl _ _⟩
def Dl(x:Nat):Bool:=gV x||((decide (97≤x)&&decide (x≤122))||(decide (65≤x)&&decide (x≤90)))
theorem ajJ:∀ x:Nat,x<256→∃ y:Nat,bits BinOp.or IntKind.u8 (x:Int) 32=(y:Int)∧((decide (97≤x)&&decide (x≤122))||(decide (65≤x)&&decide (x≤90)))=(decide (97≤y)&&decide (y≤122))∧y<256:=by
 have h:(List.range 256).all (fun(x:Nat)=>bits BinOp.or IntKind.u8 (x:Int) 32==((bits BinOp.or IntKind.u8 (x:Int) 32).toNat:Int)&&((((decide (97≤x)&&decide (x≤122))||(decide (65≤x)&&decide (x≤90))))==(decide (97≤(bits BinOp.or IntKind.u8 (x:Int) 32).toNat)&&decide ((bits BinOp.or IntKind.u8 (x:Int) 32).toNat≤122)))&&decide ((bits BinOp.or IntKind.u8 (x:Int) 32).toNat<256))=true:=by decide +kernel
 intro x hx
 have h2:=List.all_eq_true.1 h x (by simpa using hx)
 simp only[Bool.and_eq_true,beq_iff_eq,decide_eq_true_eq] at h2
 exact⟨_,h2.1.1,h2.1.2,h2.2⟩
theorem oz(x:Nat)(w:World)(hx:x<256):Calls Tryz.prog 293 #[.int .u8 x] w (aY w (.bool (Dl x))):=by
 obtain⟨y,hy,hl,hy2⟩:=ajJ x hx
 unfold Dl
 rw[hl]
 clear hl
 unfold gV
 have rest:(decide (48≤x)&&decide (x≤57))=false→Calls Tryz.prog 293 #[.int .u8 x] w (aY w (.bool (decide (97≤y)&&decide (y≤122)))):=by
  intro hn
  simp only[Bool.and_eq_false_iff,decide_eq_false_iff_not] at hn
  by_cases a1:48≤x
  ·have e1:decide (48≤(x:Int))=true:=by simp;omega
   have e2:decide ((x:Int)≤57)=false:=by simp;omega
   by_cases h1:97≤y
   ·have e3:decide (97≤(y:Int))=true:=by simp;omega
    clear hn
    go_enter Tryz.func293,Tryz.ntmps293
    go_wp2
    go_ret
    exact uq (by rw[Bool.eq_iff_iff];simp;omega)
   ·have e3:decide (97≤(y:Int))=false:=by simp;omega
    clear hn
    go_enter Tryz.func293,Tryz.ntmps293
    go_wp2
    go_ret
    exact uq (by rw[Bool.eq_iff_iff];simp;omega)
  ·have e1:decide (48≤(x:Int))=false:=by simp;omega
   by_cases h1:97≤y
   ·have e3:decide (97≤(y:Int))=true:=by simp;omega
    clear hn
    go_enter Tryz.func293,Tryz.ntmps293
    go_wp2
    go_ret
    exact uq (by rw[Bool.eq_iff_iff];simp;omega)
   ·have e3:decide (97≤(y:Int))=false:=by simp;omega
    clear hn
    go_enter Tryz.func293,Tryz.ntmps293
    go_wp2
    go_ret
    exact uq (by rw[Bool.eq_iff_iff];simp;omega)
 cases hd:(decide (48≤x)&&decide (x≤57)) with
 | false=>exact rest hd
 | true =>
  simp only[Bool.and_eq_true,decide_eq_true_eq] at hd
  have e1:decide (48≤(x:Int))=true:=by simp;omega
  have e2:decide ((x:Int)≤57)=true:=by simp;omega
  clear hd rest
  go_enter Tryz.func293,Tryz.ntmps293
  go_wp2
  go_ret
  exact⟨rfl,Below.refl _ _⟩
end
section
open Go.RowKit
def CB(b o cap p:Nat):Option Addr:=if cap=p then some ⟨b,o,none⟩ else some ⟨b,o+p,none⟩
theorem Oz(b o cap p:Nat):∃ q,CB b o cap p=some ⟨b,q,none⟩∧(p<cap→q=o+p):=by
 unfold CB
 by_cases h:cap=p
 ·exact⟨o,by rw[if_pos h],by omega⟩
 ·exact⟨o+p,by rw[if_neg h],fun _=>rfl⟩
theorem ak.sub{α:Type}{f:α→Value}{w:World}{b o n cap:Nat}{xs:List α}(h:ak w (.slice (some ⟨b,o,none⟩) n cap) 1 (fun x=>[f x]) xs)(p r:Nat)(hr:p+r≤n) :
  ak w (.slice (CB b o cap p) r (cap - p)) 1 (fun x=>[f x]) ((xs.drop p).take r):=by
 obtain⟨hlen,hcap,hcap',hcell⟩:=h.cellsA
 obtain⟨q,hq,ho⟩:=Oz b o cap p
 have hl:((xs.drop p).take r).length=r:=by rw[List.length_take,List.length_drop];omega
 refine⟨CB b o cap p,b,q,cap - p,by rw[hl],by rw[hl];omega,by simp[maxLen];omega,.inl hq,fun i hi j u hu=>?_⟩
 rw[hl] at hi
 cases j with
 | succ j=>simp at hu
 | zero =>
  simp only[List.getElem?_cons_zero,Option.some.injEq] at hu
  subst hu
  have:=hcell (p+i) (by omega) w (Below.refl _ _)
  rw[Nat.mul_one,Nat.add_zero,ho (by omega),Nat.add_assoc,this]
  congr 2
  simp
end
section
open Go.RowKit
theorem ak.ajK{α:Type}{f:α→Value}{w:World}{ad:Addr}{n c:Nat}{ys:List α}(h:ak w (.slice (some ad) n c) 1 (fun x=>[f x]) ys):∀ j u,(ys.flatMap fun x=>[f x])[j]?=some u→w.cell? (ad.add j)=some u:=by
 intro j u hu
 obtain⟨b,o,_,_,_,ha,hx⟩:=h.dh
 have e:∀ l:List α,(l.flatMap fun x=>[f x])=l.map f:=fun l=>by
  induction l with
  | nil=>rfl
  | cons y l ih=>rw[List.flatMap_cons,ih];rfl
 rw[e] at hu
 obtain⟨hj,hu2⟩:=List.getElem?_eq_some_iff.1 hu
 rw[List.length_map] at hj
 rw[List.getElem_map] at hu2
 have h1:=hx j hj w (Below.refl _ _)
 cases ha j hj
 rw[hu2] at h1
 unfold Addr.add
 by_cases e0:j=0
 ·subst e0;simpa using h1
 ·simpa [e0] using h1
theorem Dn{α:Type}{f:α→Value}{w:World}{qB E:Nat}{v:Value}{xs ys:List α}{P:Program}{ops:Array Oper}{rest:List Oper}{o:Oper}{a:Act}{Q:Exit→Act→World→Prop}(hgd:o.guard=none)(s x:Operand)(t:TypeId)
  (ho:o.op=.call { callee:=.builtin .append,args:=#[s,x],argTypes:=#[t,t] }) {z:Value} {bytes:Nat} (hE:dQ P t E z 1 bytes) (he:fB (fun x=>[f x]) 1)
  (hs:a.eval s=v) (hown:Own w qB E 1 (fun x=>[f x]) v xs) (a1:Option Addr) (n1 c1:Nat) (hx:a.eval x=.slice a1 n1 c1) (hr:ak w (.slice a1 n1 c1) 1 (fun x=>[f x]) ys)
  (h63:xs.length+n1≤maxLen) (hbytes:(xs.length+n1)*bytes≤140737488355328) (hbase:qB≤w.heap.size)
  (h:∀ a' cap' w',Own w' qB E 1 (fun x=>[f x]) (.slice a' (xs.length+n1) cap') (xs++ys)→w.grownBy w' v.ownBlock→wpList P ops Q rest (a.put o.dst (.slice a' (xs.length+n1) cap')) w'):wpList P ops Q (o::rest) a w:=by
 have hr0:=hr
 obtain⟨a1',b,o',c1',hv,hle,hm,ha,_⟩:=hr0
 obtain⟨rfl,rfl,rfl⟩:=Value.slice.inj hv
 cases a1 with
 | none =>
  rcases ha with ha | ⟨rfl,hc⟩
  ·cases ha
  ·have hc0:=hc rfl
   subst hc0
   obtain⟨i,hi,hz,hsz,hby⟩:=hE.info
   obtain⟨a0,cap0,rfl⟩:=hown.form
   have:=h a0 cap0 w (by simpa using hown) ⟨rfl,rfl,rfl,Nat.le_refl _,fun _ _ _=>rfl⟩
   exact wpList_append_own_none hgd s x t ho qB E i 1 hE.slice hi _ xs.length (xs.flatMap _) hs (hown.rV he) (by simpa using hx) (by simpa using this)
 | some ad=>exact Nc hgd s x t ho hE he hs hown ad c1 ys hx hr.ajK h63 hbytes hbase h
theorem grown_below{w w1 w2:World}(hb:Below w.heap.size w w1)(hg:w1.grownBy w2 (some w.heap.size)):Below w.heap.size w w2 :=
 ⟨hg.os.trans hb.os,hg.tape.trans hb.tape,hg.output.trans hb.output,Nat.le_trans hb.size hg.size,fun b hb'=>(hg.block b (Nat.lt_of_lt_of_le hb' hb.size) (by intro e;cases e;exact absurd hb' (Nat.lt_irrefl _))).trans (hb.block b hb')⟩
end
section
open Go.RowKit
theorem Ri:dQ Tryz.prog 35 5 (.int .u8 0) 1 1:=⟨Tryz.underlying35,info_parts (by kernel_rfl),rfl,by decide⟩
end
end Go.Proofs.YtengfapcaaacaaaGreatDoor
