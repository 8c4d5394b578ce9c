/- The texts of T9, in few letters (mini.py). -/
import Derived.Shelf.Bytes.SlSmallAll
import Derived.Test.YtbemonecmmnlcaaGreatDoorU6
set_option linter.unusedVariables false
set_option linter.unusedSimpArgs false
set_option maxHeartbeats 1600000
set_option maxRecDepth 20000
namespace Go.Proofs.YtbemonecmmnlcaaGreatDoor
section
open Go.RowKit
def Rz(l:List Nat):ByteArray:=strOfNums (l.map fun(x:Nat)=>(x:Int))
theorem OY{P:Program}{w:World}{src dst e:TypeId}(hs:P.underlying src=some (.slice e))(he:P.underlying e=some (.int .u8))(hd:P.underlying dst=some .string){a:Option Addr}{cap n:Nat}{xs:List Nat}(hn:n=xs.length)(h:ak w (.slice a n cap) 1 iG xs) :
  (convert src dst (.slice a n cap)).run P w=.ok (.string (Rz xs)) w:=by
 subst hn
 obtain⟨a',b,o,cap',hv,hl,hc,ha,hx⟩:=h
 obtain⟨rfl,_,rfl⟩:=Value.slice.inj hv
 rcases ha with rfl | ⟨rfl,_⟩
 ·refine run_convert_bytes_arg w src e hs he b o xs.length cap (xs.map fun(x:Nat)=>(x:Int)) (by simp) (fun i hi=>?_) dst hd
  have:=hx i hi 0 _ rfl
  rw[Nat.mul_one,Nat.add_zero] at this
  rw[this]
  simp[List.getD,hi]
 ·exact run_convert_bytes_zero w src e hs he a cap dst hd
theorem fM{P:Program}{o:Oper}{a:Act}{w:World}(ty:TypeId)(x:Operand)(ho:o.op=.load ty x)(g:Nat)(hx:a.eval x=.pointer (some ⟨g,0,none⟩)){cs:Array Value}{E:Nat}(hb:Box w g cs E)
  {d:TypeDesc} (hu:P.underlying ty=some d) (hd:(match d with | .struct _ | .array _ _=>true | _=>false)=true) (hi:(P.info? ty).map (·.size)=some cs.size):(execOp a.eval o).run P w=.ok (.value (.agg cs)) w:=by
 unfold execOp
 simp only[ho,hx,Instr.loadAt,Instr.sureAddr,Sem.run_bind,Sem.run_pure,Result.andThen_ok,run_loadVar_row w g E ty cs (0,0) d hb hu hd hi]
end
section
open Go.RowKit
abbrev sv(l:List UInt8):Value:=.string ⟨l.toArray⟩
abbrev bf(x:UInt8):List Value:=[.int .u8 (x.toNat:Nat)]
abbrev encI(n:Int):List Value:=[.int .i64 n]
abbrev lY(l:List UInt8):List Value:=[sv l]
abbrev adf(v:Value):List Value:=[v]
theorem Df:fD bf 1:=⟨fun _=>rfl,fun x u hu=>by simp[bf] at hu;subst hu;rfl⟩
theorem oD:fD encI 1:=⟨fun _=>rfl,fun x u hu=>by simp[encI] at hu;subst hu;rfl⟩
theorem zS:fD lY 1:=⟨fun _=>rfl,fun x u hu=>by simp[lY] at hu;subst hu;rfl⟩
theorem VZ(a:List UInt8):(⟨a.toArray⟩:ByteArray).size=a.length:=by simp[ByteArray.size]
theorem adg{w:World}{v:Value}{xs:List UInt8}(h:ak w v 1 bf xs):ak w v 1 iG (xs.map fun x=>x.toNat):=by
 obtain⟨a,b,o,cap,hv,hl,hc,ha,hx⟩:=h
 refine⟨a,b,o,cap,by rw[List.length_map];exact hv,by rw[List.length_map];exact hl,hc,ha.imp id (fun⟨h1,h2⟩=>⟨by simp[h1],h2⟩),fun i hi j u hu=>?_⟩
 rw[List.length_map] at hi
 refine hx i hi j u ?_
 rw[List.getElem_map] at hu
 exact hu
theorem XY(xs:List UInt8):Rz (xs.map fun x=>x.toNat)=⟨xs.toArray⟩:=by
 unfold Rz strOfNums
 simp only[List.map_map]
 congr 1
 congr 1
 conv=>rhs;rw[←List.map_id xs]
 exact List.map_congr_left fun x _=>by simp
theorem OZ{P:Program}{w:World}{src dst e:TypeId}(hs:P.underlying src=some (.slice e))(he:P.underlying e=some (.int .u8))(hd:P.underlying dst=some .string){a:Option Addr}{cap n:Nat}{xs:List UInt8}(hn:n=xs.length)(h:ak w (.slice a n cap) 1 bf xs) :
  (convert src dst (.slice a n cap)).run P w=.ok (sv xs) w:=by
 have:=OY hs he hd (xs:=xs.map fun x=>x.toNat) (by rw[List.length_map];exact hn) (adg h)
 rwa[XY] at this
theorem ak.bY{α:Type}{f:α→Value}{w:World}{a:Option Addr}{n cap:Nat}{xs:List α}(h:ak w (.slice a n cap) 1 (fun x=>[f x]) xs) :
  ∃ b o,n=xs.length∧xs.length≤cap∧cap≤9223372036854775807∧(∀ i,i<xs.length→a=some ⟨b,o,none⟩) ∧
   ∀ i (h:i<xs.length) (w':World),Below w.heap.size w w'→w'.cell? ⟨b,o+i,none⟩=some (f xs[i]):=by
 obtain⟨b,o,h1,h2,h3,h4,h5⟩:=h.open
 refine⟨b,o,h1,h2,h3,h4,fun i hi w' hB=>?_⟩
 have:=h5 i hi 0 _ rfl
 rw[Nat.mul_one,Nat.add_zero] at this
 rw[hB.cell (World.block_lt_of_cell? w _ this)];exact this
theorem yV{α:Type}{enc:α→List Value}{size:Nat}{P:Program}{ops:Array Oper}{rest:List Oper}{o:Oper}{a:Act}{w:World}{Q:Exit→Act→World→Prop}(hgd:o.guard=none)(t:TypeId)(x y:Operand)(ho:o.op=.makeSlice t x y)
  {E:TypeId} {z:Value} {bytes:Nat} (hE:eu P t E z size bytes) (he:fD enc size) (c:Nat) (hx:a.eval x=.int .i64 0) (hy:a.eval y=.int .i64 c) (hbytes:bytes*c≤281474976710656) (h63:c≤maxLen) (base:Nat) (hb:base≤w.heap.size)
  (h:∀ w1,Own w1 base E size enc (.slice (some ⟨w.heap.size,0,none⟩) 0 c) ([]:List α)→w.grownBy w1 none→wpList P ops Q rest (a.put o.dst (.slice (some ⟨w.heap.size,0,none⟩) 0 c)) w1):wpList P ops Q (o::rest) a w:=by
 obtain⟨i,hi,hiz,his,hib⟩:=hE.info
 subst hib
 refine wpList_plain hgd fun K hK=>?_
 obtain⟨w1,hr,hown,hg⟩:=run_make_own (P:=P) w base t E i z size hE.slice hi hiz his .i64 .i64 c hbytes h63 hb
 unfold Oper.wp execOp
 simp only[ho,hx,hy,Sem.run_bind,Sem.run_pure,Result.andThen_ok,hr,Oper.upon]
 exact hK _ _ (h _ (Own.ofRow (xs:=([]:List α)) hown he) hg)
end
section
open Go.RowKit
theorem Bg{w:World}{a b:Bool}(h:a=b):bM w (.bool a) (.returned (.bool b)) w:=⟨by rw[h],Below.refl _ _⟩
theorem XZ{a b:Bool}(h:a=b):Ending.returned (.bool b)=.returned (.bool a):=by rw[h]
def qm(x:Nat):Bool:=x==95||(decide (97≤x)&&decide (x≤122))||(decide (65≤x)&&decide (x≤90))
def uD(x:Nat):Bool:=decide (48≤x)&&decide (x≤57)
def rD(x:Nat)(first:Bool):Bool:=qm x||(!first&&uD x)
theorem am5:∀ x:Nat,x<256→∃ y:Nat,bits BinOp.or IntKind.u8 (x:Int) 32=(y:Int)∧qm x=(x==95||(decide (97≤y)&&decide (y≤122)))∧y<256:=by
 have h:(List.range 256).all (fun(x:Nat)=>bits BinOp.or IntKind.u8 (x:Int) 32==((bits BinOp.or IntKind.u8 (x:Int) 32).toNat:Int)&&(qm x==(x==95||(decide (97≤(bits BinOp.or IntKind.u8 (x:Int) 32).toNat)&&decide ((bits BinOp.or IntKind.u8 (x:Int) 32).toNat≤122))))&&decide ((bits BinOp.or IntKind.u8 (x:Int) 32).toNat<256))=true:=by decide +kernel
 intro x hx
 have h2:=List.all_eq_true.1 h x (by simpa using hx)
 simp only[Bool.and_eq_true,beq_iff_eq,decide_eq_true_eq] at h2
 exact⟨_,h2.1.1,h2.1.2,h2.2⟩
theorem RD(x:Nat)(h:uD x=true):qm x=false:=by
 unfold uD at h
 unfold qm
 rw[Bool.eq_false_iff]
 simp at h ⊢
 omega
def runFrom:Bool→List UInt8→Nat
 | _,[]=>0
 | first,c::r=>if rD c.toNat first then runFrom false r+1 else 0
theorem vY:∀ (b:Bool) (l:List UInt8),runFrom b l≤l.length
 | _,[]=>Nat.le_refl _
 | b,c::r=>by
  rw[runFrom];split
  ·have:=vY false r;simp;exact this
  ·simp
def qK(s:List UInt8):Bool:=!s.isEmpty&&decide (s.length≤32)&&(runFrom true s==s.length)
theorem IE(x:Nat)(w:World)(hx:x<256):Calls Tryz.prog 159 #[.int .u8 x] w (bM w (.bool (qm x))):=by
 obtain⟨y,hy,hl,hy2⟩:=am5 x hx
 rw[hl]
 by_cases h0:x=95
 ·subst h0
  clear hl hy
  go_enter Tryz.func159,Tryz.ntmps159
  go_wp2
  go_ret
  exact⟨rfl,Below.refl _ _⟩
 ·have e0:((x:Int)==95)=false:=by simp;omega
  have e1:(x==95)=false:=by simp;omega
  rw[e1,Bool.false_or]
  clear e1 hl
  by_cases h1:97≤y
  ·have e2:decide (97≤(y:Int))=true:=by simp;omega
   go_enter Tryz.func159,Tryz.ntmps159
   go_wp2
   go_ret
   exact Bg (by rw[Bool.eq_iff_iff];simp;omega)
  ·have e2:decide (97≤(y:Int))=false:=by simp;omega
   go_enter Tryz.func159,Tryz.ntmps159
   go_wp2
   go_ret
   exact Bg (by rw[Bool.eq_iff_iff];simp;omega)
theorem aad(x:Nat)(first:Bool)(w:World)(hx:x<256):Calls Tryz.prog 113 #[.int .u8 x,.bool first] w (bM w (.bool (rD x first))):=by
 cases hd:uD x with
 | true =>
  have hl:=RD x hd
  have e:rD x first=!first:=by unfold rD;rw[hl,hd];simp
  rw[e]
  unfold uD at hd
  simp only[Bool.and_eq_true,decide_eq_true_eq] at hd
  obtain⟨d1,d2⟩:=hd
  have e1:decide (48≤(x:Int))=true:=by simp;omega
  have e2:decide ((x:Int)≤57)=true:=by simp;omega
  clear e hl
  go_enter Tryz.func113,Tryz.ntmps113
  go_wp2
  go_ret
  exact⟨rfl,Below.refl _ _⟩
 | false =>
  have e:rD x first=qm x:=by unfold rD;rw[hd];simp
  rw[e]
  unfold uD at hd
  simp only[Bool.and_eq_false_iff,decide_eq_false_iff_not] at hd
  have hd':x<48∨57<x:=by omega
  clear e hd
  unfold qm
  by_cases a1:97≤x
  ·have e1:decide (97≤(x:Int))=true:=by simp;omega
   have e2:decide (48≤(x:Int))=true:=by simp;omega
   have e3:decide ((x:Int)≤57)=false:=by simp;omega
   by_cases a2:x≤122
   ·have e4:decide ((x:Int)≤122)=true:=by simp;omega
    clear hd'
    go_enter Tryz.func113,Tryz.ntmps113
    go_wp2
    go_ret
    exact Bg (by rw[Bool.eq_iff_iff];simp;omega)
   ·have e4:decide ((x:Int)≤122)=false:=by simp;omega
    have e5:decide (65≤(x:Int))=true:=by simp;omega
    have e6:decide ((x:Int)≤90)=false:=by simp;omega
    clear hd'
    go_enter Tryz.func113,Tryz.ntmps113
    go_wp2
    go_ret
    exact Bg (by rw[Bool.eq_iff_iff];simp;omega)
  ·have e1:decide (97≤(x:Int))=false:=by simp;omega
   have key:∀ b:Bool,b=(decide (48≤(x:Int))&&decide ((x:Int)≤57))→b=false:=fun b hb=>by rw[hb,Bool.eq_false_iff];simp;omega
   clear key
   by_cases a2:65≤x
   ·have e2:decide (48≤(x:Int))=true:=by simp;omega
    have e3:decide ((x:Int)≤57)=false:=by simp;omega
    have e5:decide (65≤(x:Int))=true:=by simp;omega
    by_cases a3:x≤90
    ·have e6:decide ((x:Int)≤90)=true:=by simp;omega
     clear hd'
     go_enter Tryz.func113,Tryz.ntmps113
     go_wp2
     go_ret
     exact Bg (by rw[Bool.eq_iff_iff];simp;omega)
    ·have e6:decide ((x:Int)≤90)=false:=by simp;omega
     clear hd'
     go_enter Tryz.func113,Tryz.ntmps113
     go_wp2
     go_ret
     exact Bg (by rw[Bool.eq_iff_iff];simp;omega)
   ·have e5:decide (65≤(x:Int))=false:=by simp;omega
    by_cases a3:48≤x
    ·have e2:decide (48≤(x:Int))=true:=by simp;omega
     have e3:decide ((x:Int)≤57)=false:=by simp;omega
     clear hd'
     go_enter Tryz.func113,Tryz.ntmps113
     go_wp2
     go_ret
     exact Bg (by rw[Bool.eq_iff_iff];simp;omega)
    ·have e2:decide (48≤(x:Int))=false:=by simp;omega
     clear hd'
     go_enter Tryz.func113,Tryz.ntmps113
     go_wp2
     go_ret
     exact Bg (by rw[Bool.eq_iff_iff];simp;omega)
def uF:Bool→List UInt8→Bool
 | _,[]=>true
 | first,c::r=>rD c.toNat first&&uF false r
theorem IG:∀ (b:Bool) (l:List UInt8),(runFrom b l==l.length)=uF b l
 | _,[]=>by simp[runFrom,uF]
 | b,c::r=>by
  have ih:=IG false r
  rw[runFrom,uF]
  cases rD c.toNat b with
  | true=>rw[if_pos rfl,Bool.true_and,←ih];simp[Bool.beq_eq_decide_eq]
  | false=>rw[if_neg (by simp)];simp
theorem aae(s:List UInt8):qK s=(uF true s&&(decide (1≤s.length)&&decide (s.length≤32))):=by
 unfold qK
 rw[IG]
 cases s with
 | nil=>simp
 | cons a r=>cases h:uF true (a::r) <;> simp
theorem drop_at{α:Type}(l:List α)(k:Nat)(h:k<l.length):l.drop k=l[k]::l.drop (k+1):=(List.getElem_cons_drop h).symm
theorem X0(s:List UInt8)(w:World)(hs:s.length≤9223372036854775807):Calls Tryz.prog 66 #[sv s] w (bM w (.bool (qK s))):=by
 obtain⟨n,hn⟩:∃ n,s.length=n:=⟨_,rfl⟩
 have hix:∀ (k:Nat) (h:k<(⟨s.toArray⟩:ByteArray).size) (h2:k<s.length),(⟨s.toArray⟩:ByteArray)[k]=s[k]:=fun k h h2=>rfl
 have e:=aae s
 rw[hn] at e
 have hsz:(⟨s.toArray⟩:ByteArray).size=n:=by rw[VZ,hn]
 have HE:=ah e
 have Ld:=ah hix
 have HN:=ah hn
 rw[hn] at hs
 clear e hix
 go_enter Tryz.func66,Tryz.ntmps66
 go_wp2
 go_loopw [3] (fun i wr=>∃ k:Nat,k≤n∧i=.int .i64 k∧uF true s=uF (k==0) (s.drop k)∧Below w.heap.size w wr) (fun i _=>n - (intOf i).toNat)
 case atStart=>exact⟨0,Nat.zero_le _,rfl,rfl,Below.refl _ _⟩
 case round =>
  obtain⟨k,hk,rfl,ha,hB⟩:=hrel
  by_cases hlt:k<n
  ·have hk2:k<s.length:=by rw[HN.out];exact hlt
   rw[drop_at s k hk2,uF] at ha
   have hi:=fun h=>Ld.out k h hk2
   have hm:=fun w=>aad s[k].toNat (k==0) w s[k].toNat_lt
   have hk0:((k:Int)==0)=(k==0):=by rw[Bool.eq_iff_iff];simp
   generalize s[k]=c at *
   generalize hf:(k==0)=f at *
   cases wU:rD c.toNat f with
   | true =>
    rw[wU] at hm
    rw[wU,Bool.true_and] at ha
    have HM:=ah hm
    have HA:=ah ha
    clear hm ha wU hf
    go_wp2_with (go_at_call 113;go_must (refine(HM.out _).mono ?_;rintro e w1 ⟨rfl,hB1⟩))
    go_roundw
    case rel=>exact⟨k+1,hlt,by go_num,by rw[HA.out];rfl,hB.trans (hB1.mono hB.size)⟩
    case measure=>simp[intOf];omega
   | false =>
    rw[wU] at hm
    rw[wU,Bool.false_and] at ha
    have HM:=ah hm
    have HA:=ah ha
    clear hm ha wU hf
    go_wp2_with (go_at_call 113;go_must (refine(HM.out _).mono ?_;rintro e w1 ⟨rfl,hB1⟩))
    go_ret
    exact⟨by rw[HE.out,HA.out];rfl,hB.trans (hB1.mono hB.size)⟩
  ·obtain rfl:k=n:=by omega
   rw[List.drop_eq_nil_of_le (by rw[HN.out];exact Nat.le_refl _),uF] at ha
   have HA:=ah ha
   clear ha
   by_cases h1:1≤k
   ·have e1:decide (1≤(k:Int))=true:=by simp;omega
    go_wp2
    go_ret
    exact⟨by rw[HE.out,HA.out];exact XZ (by rw[Bool.eq_iff_iff];simp;omega),hB⟩
   ·have e1:decide (1≤(k:Int))=false:=by simp;omega
    go_wp2
    go_ret
    exact⟨by rw[HE.out,HA.out];exact XZ (by rw[Bool.eq_iff_iff];simp;omega),hB⟩
theorem adh(s:List UInt8)(w:World)(hs:s.length≤9223372036854775807):Calls Tryz.prog 111 #[sv s] w (bM w (.int .i64 (runFrom true s:Nat))):=by
 obtain⟨n,hn⟩:∃ n,s.length=n:=⟨_,rfl⟩
 have hix:∀ (k:Nat) (h:k<(⟨s.toArray⟩:ByteArray).size) (h2:k<s.length),(⟨s.toArray⟩:ByteArray)[k]=s[k]:=fun k h h2=>rfl
 have hsz:(⟨s.toArray⟩:ByteArray).size=n:=by rw[VZ,hn]
 have Ld:=ah hix
 have HN:=ah hn
 rw[hn] at hs
 clear hix
 go_enter Tryz.func111,Tryz.ntmps111
 go_wp2
 go_loopw [3] (fun i wr=>∃ k:Nat,k≤n∧i=.int .i64 k∧runFrom true s=k+runFrom (k==0) (s.drop k)∧Below w.heap.size w wr) (fun i _=>n - (intOf i).toNat)
 case atStart=>exact⟨0,Nat.zero_le _,rfl,by simp,Below.refl _ _⟩
 case round =>
  obtain⟨k,hk,rfl,ha,hB⟩:=hrel
  by_cases hlt:k<n
  ·have hk2:k<s.length:=by rw[HN.out];exact hlt
   rw[drop_at s k hk2,runFrom] at ha
   have hi:=fun h=>Ld.out k h hk2
   have hm:=fun w=>IE s[k].toNat w s[k].toNat_lt
   have hc256:=s[k].toNat_lt
   generalize s[k]=c at *
   by_cases hl:qm c.toNat=true
   ·rw[hl] at hm
    have wU:rD c.toNat (k==0)=true:=by unfold rD;rw[hl];rfl
    rw[wU,if_pos rfl] at ha
    have HM:=ah hm
    have HA:=ah ha
    clear hm ha wU hl
    go_wp2_with (go_at_call 159;go_must (refine(HM.out _).mono ?_;rintro e w1 ⟨rfl,hB1⟩))
    go_roundw
    case rel=>exact⟨k+1,hlt,by go_num,by rw[HA.out];simp;omega,hB.trans (hB1.mono hB.size)⟩
    case measure=>simp[intOf];omega
   ·have hl:=Bool.eq_false_iff.2 hl
    rw[hl] at hm
    have wU:rD c.toNat (k==0)=(!(k==0)&&uD c.toNat):=by unfold rD;rw[hl];rfl
    rw[wU] at ha
    have HM:=ah hm
    unfold uD at ha
    clear hm wU hl
    by_cases h0:k=0
    ·subst h0
     have HA:=ah ha
     clear ha
     go_wp2_with (go_at_call 159;go_must (refine(HM.out _).mono ?_;rintro e w1 ⟨rfl,hB1⟩))
     go_ret
     exact⟨by rw[HA.out];rfl,hB.trans (hB1.mono hB.size)⟩
    ·have e0:decide (0<(k:Int))=true:=by simp;omega
     have e00:(0<k):=by omega
     have hkb:(k==0)=false:=by simp;omega
     rw[hkb] at ha
     by_cases d1:48≤c.toNat
     ·have e1:decide (48≤(c.toNat:Int))=true:=by simp;omega
      by_cases d2:c.toNat≤57
      ·have e2:decide ((c.toNat:Int)≤57)=true:=by simp;omega
       rw[if_pos (by simp[d1,d2])] at ha
       have HA:=ah ha
       clear ha hkb h0
       go_wp2_with (go_at_call 159;go_must (refine(HM.out _).mono ?_;rintro e w1 ⟨rfl,hB1⟩))
       go_roundw
       case rel=>exact⟨k+1,hlt,by go_num,by rw[HA.out];simp;omega,hB.trans (hB1.mono hB.size)⟩
       case measure=>simp[intOf];omega
      ·have e2:decide ((c.toNat:Int)≤57)=false:=by simp;omega
       rw[if_neg (by simp[d1,d2])] at ha
       have HA:=ah ha
       clear ha hkb h0
       go_wp2_with (go_at_call 159;go_must (refine(HM.out _).mono ?_;rintro e w1 ⟨rfl,hB1⟩))
       go_ret
       exact⟨by rw[HA.out];rfl,hB.trans (hB1.mono hB.size)⟩
     ·have e1:decide (48≤(c.toNat:Int))=false:=by simp;omega
      rw[if_neg (by simp[d1])] at ha
      have HA:=ah ha
      clear ha hkb h0
      go_wp2_with (go_at_call 159;go_must (refine(HM.out _).mono ?_;rintro e w1 ⟨rfl,hB1⟩))
      go_ret
      exact⟨by rw[HA.out];rfl,hB.trans (hB1.mono hB.size)⟩
  ·obtain rfl:k=n:=by omega
   rw[List.drop_eq_nil_of_le (by rw[HN.out];exact Nat.le_refl _),runFrom] at ha
   have HA:=ah ha
   clear ha
   go_wp2
   go_ret
   exact⟨by rw[HA.out];rfl,hB⟩
theorem O1(s:List UInt8)(w:World)(hs:s.length≤9223372036854775807):Calls Tryz.prog 62 #[sv s] w (bM w (.bool (qK s))):=by
 have hr:=fun w=>adh s w hs
 have hle:=vY true s
 unfold qK
 generalize runFrom true s=r at *
 have HR:=ah hr
 clear hr
 cases s with
 | nil =>
  go_enter Tryz.func62,Tryz.ntmps62
  go_wp2_with (go_at_call 111;go_must (refine(HR.out _).mono ?_;rintro e w1 ⟨rfl,hB1⟩))
  go_ret
  exact⟨rfl,Below.refl _ _⟩
 | cons a l =>
  have e0:((!(a::l).isEmpty&&decide ((a::l).length≤32)&&r==(a::l).length):Bool)=(decide (l.length+1≤32)&&r==l.length+1):=rfl
  rw[e0]
  rw[List.length_cons] at hle hs
  generalize hm:l.length=m at *
  have HM:=ah hm
  have hle2:(r:Int)≤(m:Int)+1:=by omega
  by_cases h1:m+1≤32
  ·have e1:decide ((m:Int)+1≤32)=true:=by simp;omega
   go_enter Tryz.func62,Tryz.ntmps62
   go_wp2_with (go_at_call 111;go_must (refine(HR.out _).mono ?_;rintro e w1 ⟨rfl,hB1⟩))
   go_ret
   exact⟨XZ (by rw[Bool.eq_iff_iff];simp;omega),hB1⟩
  ·have e1:decide ((m:Int)+1≤32)=false:=by simp;omega
   go_enter Tryz.func62,Tryz.ntmps62
   go_wp2_with (go_at_call 111;go_must (refine(HR.out _).mono ?_;rintro e w1 ⟨rfl,hB1⟩))
   go_ret
   exact⟨XZ (by rw[Bool.eq_iff_iff];simp;omega),Below.refl _ _⟩
end
section
open Go.RowKit
theorem ak.cellsA{α:Type}{f:α→Value}{w:World}{b o n cap:Nat}{xs:List α}(h:ak w (.slice (some ⟨b,o,none⟩) n cap) 1 (fun x=>[f x]) xs) :
  n=xs.length∧xs.length≤cap∧cap≤9223372036854775807∧∀ i (h:i<xs.length) (w':World),Below w.heap.size w w'→w'.cell? ⟨b,o+i,none⟩=some (f xs[i]):=by
 obtain⟨b',o',h1,h2,h3,h4,h5⟩:=h.bY
 refine⟨h1,h2,h3,fun i hi w' hb=>?_⟩
 obtain⟨rfl,rfl⟩:b=b'∧o=o':=by have:=h4 i hi;simpa using this
 exact h5 i hi w' hb
end
section
open Go.RowKit
theorem aaf(b o n cap:Nat)(s:List UInt8)(w:World)(h:ak w (.slice (some ⟨b,o,none⟩) n cap) 1 bf s):Calls Tryz.prog 174 #[.slice (some ⟨b,o,none⟩) n cap] w (bM w (.int .i64 (runFrom true s:Nat))):=by
 obtain⟨hn,hcap,hcap2,hc⟩:=h.cellsA
 have HC:=ah hc
 have HN:=ah hn.symm
 have hn63:n≤9223372036854775807:=by omega
 clear h hc hn hcap hcap2
 go_enter Tryz.func174,Tryz.ntmps174
 go_wp2
 go_loopw [3] (fun i wr=>∃ k:Nat,k≤n∧i=.int .i64 k∧runFrom true s=k+runFrom (k==0) (s.drop k)∧Below w.heap.size w wr) (fun i _=>n - (intOf i).toNat)
 case atStart=>exact⟨0,Nat.zero_le _,rfl,by simp,Below.refl _ _⟩
 case round =>
  obtain⟨k,hk,rfl,ha,hB⟩:=hrel
  by_cases hlt:k<n
  ·have hk2:k<s.length:=by rw[HN.out];exact hlt
   rw[drop_at s k hk2,runFrom] at ha
   have hi:=HC.out k hk2
   have hm:=fun w=>IE s[k].toNat w s[k].toNat_lt
   have hc256:=s[k].toNat_lt
   have y0:=hi wr hB
   have Ld:=ah hi
   clear hi
   have hkn:(k:Int)<(n:Int):=by omega
   have arh:(0:Int)≤(k:Int):=by omega
   generalize s[k]=c at *
   by_cases hl:qm c.toNat=true
   ·rw[hl] at hm
    have wU:rD c.toNat (k==0)=true:=by unfold rD;rw[hl];rfl
    rw[wU,if_pos rfl] at ha
    have HM:=ah hm
    have HA:=ah ha
    clear hm ha wU hl
    go_wp2_with (go_at_call 159;go_must (refine(HM.out _).mono ?_;rintro e w1 ⟨rfl,hB1⟩;have y1:=Ld.out w1 (hB.trans (hB1.mono hB.size))))
    go_roundw
    case rel=>exact⟨k+1,hlt,by go_num,by rw[HA.out];simp;omega,hB.trans (hB1.mono hB.size)⟩
    case measure=>simp[intOf];omega
   ·have hl:=Bool.eq_false_iff.2 hl
    rw[hl] at hm
    have wU:rD c.toNat (k==0)=(!(k==0)&&uD c.toNat):=by unfold rD;rw[hl];rfl
    rw[wU] at ha
    have HM:=ah hm
    unfold uD at ha
    clear hm wU hl
    by_cases h0:k=0
    ·subst h0
     rw[Nat.add_zero] at y0
     have HA:=ah ha
     clear ha
     go_wp2_with (go_at_call 159;go_must (refine(HM.out _).mono ?_;rintro e w1 ⟨rfl,hB1⟩;have y1:=Ld.out w1 (hB.trans (hB1.mono hB.size))))
     go_ret
     exact⟨by rw[HA.out];rfl,hB.trans (hB1.mono hB.size)⟩
    ·have e0:decide (0<(k:Int))=true:=by simp;omega
     have e00:(0<k):=by omega
     have hkb:(k==0)=false:=by simp;omega
     rw[hkb] at ha
     by_cases d1:48≤c.toNat
     ·have e1:decide (48≤(c.toNat:Int))=true:=by simp;omega
      by_cases d2:c.toNat≤57
      ·have e2:decide ((c.toNat:Int)≤57)=true:=by simp;omega
       rw[if_pos (by simp[d1,d2])] at ha
       have HA:=ah ha
       clear ha hkb h0
       go_wp2_with (go_at_call 159;go_must (refine(HM.out _).mono ?_;rintro e w1 ⟨rfl,hB1⟩;have y1:=Ld.out w1 (hB.trans (hB1.mono hB.size))))
       go_roundw
       case rel=>exact⟨k+1,hlt,by go_num,by rw[HA.out];simp;omega,hB.trans (hB1.mono hB.size)⟩
       case measure=>simp[intOf];omega
      ·have e2:decide ((c.toNat:Int)≤57)=false:=by simp;omega
       rw[if_neg (by simp[d1,d2])] at ha
       have HA:=ah ha
       clear ha hkb h0
       go_wp2_with (go_at_call 159;go_must (refine(HM.out _).mono ?_;rintro e w1 ⟨rfl,hB1⟩;have y1:=Ld.out w1 (hB.trans (hB1.mono hB.size))))
       go_ret
       exact⟨by rw[HA.out];rfl,hB.trans (hB1.mono hB.size)⟩
     ·have e1:decide (48≤(c.toNat:Int))=false:=by simp;omega
      rw[if_neg (by simp[d1])] at ha
      have HA:=ah ha
      clear ha hkb h0
      go_wp2_with (go_at_call 159;go_must (refine(HM.out _).mono ?_;rintro e w1 ⟨rfl,hB1⟩;have y1:=Ld.out w1 (hB.trans (hB1.mono hB.size))))
      go_ret
      exact⟨by rw[HA.out];rfl,hB.trans (hB1.mono hB.size)⟩
  ·obtain rfl:k=n:=by omega
   rw[List.drop_eq_nil_of_le (by rw[HN.out];exact Nat.le_refl _),runFrom] at ha
   have HA:=ah ha
   clear ha
   go_wp2
   go_ret
   exact⟨by rw[HA.out];rfl,hB⟩
end
section
open Go.RowKit
def Ci(b o cap p:Nat):Option Addr:=if cap=p then some ⟨b,o,none⟩ else some ⟨b,o+p,none⟩
theorem aag(b o cap p:Nat):∃ q,Ci b o cap p=some ⟨b,q,none⟩∧(p<cap→q=o+p):=by
 unfold Ci
 by_cases h:cap=p
 ·exact⟨o,by rw[if_pos h],by omega⟩
 ·exact⟨o+p,by rw[if_neg h],fun _=>rfl⟩
theorem ak.sub{α:Type}{f:α→Value}{w:World}{b o n cap:Nat}{xs:List α}(h:ak w (.slice (some ⟨b,o,none⟩) n cap) 1 (fun x=>[f x]) xs)(p r:Nat)(hr:p+r≤n) :
  ak w (.slice (Ci b o cap p) r (cap - p)) 1 (fun x=>[f x]) ((xs.drop p).take r):=by
 obtain⟨hlen,hcap,hcap',hcell⟩:=h.cellsA
 obtain⟨q,hq,ho⟩:=aag b o cap p
 have hl:((xs.drop p).take r).length=r:=by rw[List.length_take,List.length_drop];omega
 refine⟨Ci b o cap p,b,q,cap - p,by rw[hl],by rw[hl];omega,by simp[maxLen];omega,.inl hq,fun i hi j u hu=>?_⟩
 rw[hl] at hi
 cases j with
 | succ j=>simp at hu
 | zero =>
  simp only[List.getElem?_cons_zero,Option.some.injEq] at hu
  subst hu
  have:=hcell (p+i) (by omega) w (Below.refl _ _)
  rw[Nat.mul_one,Nat.add_zero,ho (by omega),Nat.add_assoc,this]
  congr 2
  simp
end
section
open Go.RowKit
theorem ak.afe{α:Type}{f:α→Value}{w:World}{ad:Addr}{n c:Nat}{ys:List α}(h:ak w (.slice (some ad) n c) 1 (fun x=>[f x]) ys):∀ j u,(ys.flatMap fun x=>[f x])[j]?=some u→w.cell? (ad.add j)=some u:=by
 intro j u hu
 obtain⟨b,o,_,_,_,ha,hx⟩:=h.bY
 have e:∀ l:List α,(l.flatMap fun x=>[f x])=l.map f:=fun l=>by
  induction l with
  | nil=>rfl
  | cons y l ih=>rw[List.flatMap_cons,ih];rfl
 rw[e] at hu
 obtain⟨hj,hu2⟩:=List.getElem?_eq_some_iff.1 hu
 rw[List.length_map] at hj
 rw[List.getElem_map] at hu2
 have h1:=hx j hj w (Below.refl _ _)
 cases ha j hj
 rw[hu2] at h1
 unfold Addr.add
 by_cases e0:j=0
 ·subst e0;simpa using h1
 ·simpa [e0] using h1
end
section
open Go.RowKit
theorem sW{a b:Nat}(_:a≤aF):addN a b≤aF:=by unfold addN;split <;> omega
theorem Dh{a b:Nat}:mulN a b≤aF:=by
 unfold mulN
 split
 ·omega
 ·split
  ·omega
  ·rename_i h1 h2
   have hb:0<b:=by omega
   have h3:a*b≤aF / b*b:=Nat.mul_le_mul_right _ (by omega)
   exact Nat.le_trans h3 (Nat.div_mul_le_self _ _)
def Ac(l:List Nat):Nat:=l.foldl addN 0
theorem agz(l:List Nat):Ac l≤aF:=by
 have:∀ (l:List Nat) (a:Nat),a≤aF→l.foldl addN a≤aF:=by
  intro l
  induction l with
  | nil=>intro a h;exact h
  | cons x l ih=>intro a h;exact ih _ (sW h)
 exact this l 0 (by unfold aF;omega)
theorem aah(l:List Nat)(i:Nat)(h:i<l.length):Ac (l.take (i+1))=addN (Ac (l.take i)) l[i]:=by
 unfold Ac;rw[List.take_succ_eq_append_getElem h,List.foldl_append];rfl
abbrev aG(n:Nat):List Value:=[.int .i64 n]
theorem adi(a b bb:Nat)(w:World)(ha:a≤aF)(hb:b≤aF)(hB:Box w bb #[.int .i64 (aF:Nat)] 3) :
  Calls Tryz.prog 230 #[.int .i64 a,.int .i64 b,.pointer (some ⟨bb,0,none⟩)] w (bM w (.int .i64 (addN a b:Nat))):=by
 have c0:w.cell? ⟨bb,0,none⟩=some (.int .i64 1099511627776):=hB.cell 0
 unfold aF at ha hb
 clear hB
 by_cases h:aF - a<b
 ·have e:addN a b=aF:=by unfold addN;rw[if_pos h]
  rw[e]
  unfold aF at h ⊢
  have h2:(1099511627776:Int) - (a:Int)<(b:Int):=by omega
  clear e h
  go_enter Tryz.func230,Tryz.ntmps230
  go_wp2
  go_ret
  exact⟨rfl,Below.refl _ _⟩
 ·have e:addN a b=a+b:=by unfold addN;rw[if_neg h]
  rw[e]
  unfold aF at h
  have h2:¬ (1099511627776:Int) - (a:Int)<(b:Int):=by omega
  clear e h
  go_enter Tryz.func230,Tryz.ntmps230
  go_wp2
  go_ret
  exact⟨by simp,Below.refl _ _⟩
theorem fold_add(b o cap n bb:Nat)(l:List Nat)(w:World)(h:ak w (.slice (some ⟨b,o,none⟩) n cap) 1 aG l)(hl:∀ x∈l,x≤aF)(hB:Box w bb #[.int .i64 (aF:Nat)] 3) :
  Calls Tryz.prog 229 #[.int .i64 0,.slice (some ⟨b,o,none⟩) n cap,.func (.func 230) #[] #[.pointer (some ⟨bb,0,none⟩)]] w (bM w (.int .i64 (Ac l:Nat))):=by
 obtain⟨hn,hcap,hc63,hcell⟩:=ak.cellsA (f:=fun n:Nat=>Value.int .i64 n) h
 have HC:=ah hcell
 have HN:=ah hn
 have HL:=ah hl
 have hn63:n≤9223372036854775807:=by omega
 clear h hcell hn hcap hc63 hl
 go_enter Tryz.func229,Tryz.ntmps229
 go_wp2
 go_loopw [7,13] (fun v i wr=>∃ k:Nat,k≤n∧i=.int .i64 k∧v=.int .i64 (Ac (l.take k):Nat)∧Below w.heap.size w wr) (fun _ i _=>n - (intOf i).toNat)
 case atStart=>exact⟨0,Nat.zero_le _,rfl,rfl,Below.refl _ _⟩
 case round =>
  obtain⟨k,hk,rfl,rfl,hBl⟩:=hrel
  by_cases hlt:k<n
  ·have hk2:k<l.length:=by rw[←HN.out];exact hlt
   have y0:=HC.out k hk2 wr hBl
   have hx:=HL.out _ (List.getElem_mem hk2)
   have hst:=adi (Ac (l.take k)) l[k] bb wr (agz _) hx (hB.kept hBl)
   rw[←aah l k hk2] at hst
   generalize l[k]=x at *
   generalize Ac (l.take k)=s at *
   have h0x:(0:Int)≤(x:Int):=by omega
   have hmx:max (x:Int) 0=(x:Int):=by omega
   have HS:=ah hst
   clear hst hx
   have hki:(k:Int)<(n:Int):=by omega
   have hk0:(0:Int)≤(k:Int):=by omega
   go_wp2_with (go_at_call 230;go_must (refine HS.out.mono ?_;rintro e w2 ⟨rfl,hb2⟩))
   exact⟨⟨k+1,hlt,by push_cast;rfl,rfl,hBl.trans (hb2.mono hBl.size)⟩,by simp[intOf];omega⟩
  ·obtain rfl:k=n:=by omega
   rw[List.take_of_length_le (by rw[HN.out];exact Nat.le_refl _)]
   clear hB
   go_wp2
   go_ret
   exact⟨rfl,hBl⟩
theorem xB(b o cap n:Nat)(l:List Nat)(w:World)(h:ak w (.slice (some ⟨b,o,none⟩) n cap) 1 aG l)(hl:∀ x∈l,x≤aF) :
  Calls Tryz.prog 182 #[.int .i64 (aF:Nat),.slice (some ⟨b,o,none⟩) n cap] w (bM w (.int .i64 (Ac l:Nat))):=by
 have hmf:∀ (fn:Fn) (first cap:Array Value) (w:World),(Instr.makeFunc fn first cap).run Tryz.prog w=.ok (.func fn first cap) w:=fun _ _ _ _=>rfl
 have hB0:=aj w (.cells #[.int .i64 (aF:Nat)] 3)
 have hf:=fold_add b o cap n w.heap.size l _ (h.kept hB0) hl (Box.new w _ _)
 have HF:=ah hf
 unfold aF at HF hB0 ⊢
 clear hf h hl
 go_enter Tryz.func182,Tryz.ntmps182
 go_wp2_with (go_at_call 229;go_must (refine HF.out.mono ?_;rintro e w2 ⟨rfl,hb2⟩))
 go_ret
 exact⟨rfl,hB0.trans (hb2.mono hB0.size)⟩
end
section
open Go.RowKit
def stepM(s:Nat×Bool)(b:Nat):Nat×Bool:=if s.1=0∨b=0 then (0,s.2) else if s.2=true∨aF / b<s.1 then (s.1,true) else (s.1*b,s.2)
theorem adk{s:Nat×Bool}{b:Nat}(h:s.1≤aF):(stepM s b).1≤aF:=by
 unfold stepM
 split
 ·simp[aF]
 ·split
  ·exact h
  ·rename_i h1 h2
   have hb:0<b:=by omega
   have h3:s.1*b≤aF / b*b:=Nat.mul_le_mul_right _ (by have:¬ aF / b<s.1:=fun e=>h2 (.inr e);omega)
   exact Nat.le_trans h3 (Nat.div_mul_le_self _ _)
def foldM(l:List Nat):Nat×Bool:=l.foldl stepM (1,false)
theorem RF(l:List Nat):(foldM l).1≤aF:=by
 have:∀ (l:List Nat) (s:Nat×Bool),s.1≤aF→(l.foldl stepM s).1≤aF:=by
  intro l
  induction l with
  | nil=>intro a h;exact h
  | cons x l ih=>intro a h;exact ih _ (adk h)
 exact this l (1,false) (by simp[aF])
theorem X3(l:List Nat)(i:Nat)(h:i<l.length):foldM (l.take (i+1))=stepM (foldM (l.take i)) l[i]:=by
 unfold foldM;rw[List.take_succ_eq_append_getElem h,List.foldl_append];rfl
def mulR(s:Nat×Bool):Nat:=if s.1≠0∧s.2=true then aF else s.1
theorem mul_two(a b:Nat):mulR (foldM [a,b])=mulN a b:=by
 show mulR (stepM (stepM (1,false) a) b)=mulN a b
 by_cases ha:a=0
 ·subst ha;simp[stepM,mulR,mulN]
 by_cases hb:b=0
 ·subst hb
  have:(stepM (stepM (1,false) a) 0).1=0:=by unfold stepM;rw[if_pos (.inr rfl)]
  simp[this,mulR,mulN]
 have hm:mulN a b=if aF / b<a then aF else a*b:=by unfold mulN;rw[if_neg (by omega:¬ (a=0∨b=0))]
 rw[hm]
 by_cases h1:aF / a<1
 ·have e1:stepM (1,false) a=(1,true):=by unfold stepM;rw[if_neg (by simp;omega),if_pos (.inr h1)]
  have e2:stepM (1,true) b=(1,true):=by unfold stepM;rw[if_neg (by simp;omega),if_pos (.inl rfl)]
  rw[e1,e2]
  have h2:aF<a:=by
   rcases Nat.lt_or_ge aF a with h | h
   ·exact h
   ·have:=Nat.div_pos h (by omega:0<a);omega
  have h3:aF / b<a:=Nat.lt_of_le_of_lt (Nat.div_le_self _ _) h2
  rw[if_pos h3];simp[mulR]
 ·have e1:stepM (1,false) a=(a,false):=by unfold stepM;rw[if_neg (by simp;omega),if_neg (by rintro(h | h);cases h;exact h1 h)];simp
  rw[e1]
  by_cases h2:aF / b<a
  ·have e2:stepM (a,false) b=(a,true):=by unfold stepM;rw[if_neg (by simp;omega),if_pos (.inr h2)]
   rw[e2,if_pos h2];simp[ha,mulR]
  ·have e2:stepM (a,false) b=(a*b,false):=by unfold stepM;rw[if_neg (by simp;omega),if_neg (by rintro(h | h);cases h;exact h2 h)]
   rw[e2,if_neg h2];simp[mulR]
theorem adl(v b b1 b2:Nat)(y:Bool)(w:World)(_:v≤aF)(hb:b≤9223372036854775807)(hY:Box w b1 #[.bool y] 4)(hB:Box w b2 #[.int .i64 (aF:Nat)] 3) :
  Calls Tryz.prog 306 #[.int .i64 v,.int .i64 b,.pointer (some ⟨b1,0,none⟩),.pointer (some ⟨b2,0,none⟩)] w (fun e w'=>e=.returned (.int .i64 ((stepM (v,y) b).1:Nat))∧(w'=w∧(stepM (v,y) b).2=y∨w'=w.setCell ⟨b1,0,none⟩ (.bool true)∧(stepM (v,y) b).2=true)):=by
 have c0:w.cell? ⟨b2,0,none⟩=some (.int .i64 1099511627776):=hB.cell 0
 have c1:w.cell? ⟨b1,0,none⟩=some (.bool y):=hY.cell 0
 have f1:=hY.free 0
 clear hB hY
 by_cases h1:v=0
 ·have e:stepM (v,y) b=(0,y):=by unfold stepM;rw[if_pos (.inl h1)]
  rw[e]
  have e1:((v:Int)==0)=true:=by rw[h1];rfl
  clear e h1
  go_enter Tryz.func306,Tryz.ntmps306
  go_wp2
  go_ret
  exact⟨rfl,.inl ⟨rfl,by trivial⟩⟩
 have e1:((v:Int)==0)=false:=by rw[beq_eq_false_iff_ne];omega
 by_cases h2:b=0
 ·have e:stepM (v,y) b=(0,y):=by unfold stepM;rw[if_pos (.inr h2)]
  rw[e]
  have e2:((b:Int)==0)=true:=by rw[h2];rfl
  clear e h2 h1
  go_enter Tryz.func306,Tryz.ntmps306
  go_wp2
  go_ret
  exact⟨rfl,.inl ⟨rfl,by trivial⟩⟩
 have e2:((b:Int)==0)=false:=by rw[beq_eq_false_iff_ne];omega
 have hb0:¬ (b:Int)=0:=by omega
 cases y with
 | true =>
  have e:stepM (v,true) b=(v,true):=by unfold stepM;rw[if_neg (by simp;omega),if_pos (.inl rfl)]
  rw[e]
  clear e h2 h1
  go_enter Tryz.func306,Tryz.ntmps306
  go_wp2
  go_ret
  exact⟨rfl,.inr ⟨rfl,by trivial⟩⟩
 | false =>
  by_cases h3:aF / b<v
  ·have e:stepM (v,false) b=(v,true):=by unfold stepM;rw[if_neg (by simp;omega),if_pos (.inr h3)]
   rw[e]
   unfold aF at h3
   have h4:(1099511627776:Int) / (b:Int)<(v:Int):=by
    have:((1099511627776 / b:Nat):Int)=(1099511627776:Int) / (b:Int):=by simp
    omega
   clear e h2 h1 h3
   go_enter Tryz.func306,Tryz.ntmps306
   go_wp2
   go_ret
   exact⟨rfl,.inr ⟨rfl,by trivial⟩⟩
  ·have e:stepM (v,false) b=(v*b,false):=by unfold stepM;rw[if_neg (by simp;omega),if_neg (by rintro(h | h);cases h;exact h3 h)]
   rw[e]
   unfold aF at h3
   have h4:¬ (1099511627776:Int) / (b:Int)<(v:Int):=by
    have:((1099511627776 / b:Nat):Int)=(1099511627776:Int) / (b:Int):=by simp
    omega
   have h5:v*b≤1099511627776:=by
    have hb3:v*b≤1099511627776 / b*b:=Nat.mul_le_mul_right _ (by omega)
    exact Nat.le_trans hb3 (Nat.div_mul_le_self _ _)
   clear e h2 h1 h3
   go_enter Tryz.func306,Tryz.ntmps306
   go_wp2
   go_ret
   refine⟨by simp,?_⟩
   first | rfl | exact .inl ⟨rfl,by trivial⟩
theorem adn(b o cap n b1 b2:Nat)(l:List Nat)(w:World)(h:ak w (.slice (some ⟨b,o,none⟩) n cap) 1 aG l)(hl:∀ x∈l,x≤9223372036854775807)(hY:Box w b1 #[.bool false] 4)(hB:Box w b2 #[.int .i64 (aF:Nat)] 3)(hne:b2≠b1)(hbb:b≠b1) :
  Calls Tryz.prog 229 #[.int .i64 1,.slice (some ⟨b,o,none⟩) n cap,.func (.func 306) #[] #[.pointer (some ⟨b1,0,none⟩),.pointer (some ⟨b2,0,none⟩)]] w (fun e w'=>e=.returned (.int .i64 ((foldM l).1:Nat))∧Box w' b1 #[.bool (foldM l).2] 4∧Box w' b2 #[.int .i64 (aF:Nat)] 3∧∀ B,B≤b1→B≤w.heap.size→Below B w w'):=by
 obtain⟨hn,hcap,hc63,hcell⟩:=ak.cellsA (f:=fun n:Nat=>Value.int .i64 n) h
 have hcell2:∀ i (h:i<l.length) (w':World),w'.heap[b]?=w.heap[b]?→w'.cell? ⟨b,o+i,none⟩=some (.int .i64 (l[i]:Nat)):=fun i hi w' hw=>(World.cell?_of_block (a:=⟨b,o+i,none⟩) hw).trans (hcell i hi w (Below.refl _ _))
 have HC:=ah hcell2
 have HN:=ah hn
 have HL:=ah hl
 have hn63:n≤9223372036854775807:=by omega
 clear h hcell hcell2 hn hcap hc63 hl
 go_enter Tryz.func229,Tryz.ntmps229
 go_wp2
 go_loopw [7,13] (fun v i wr=>∃ k:Nat,k≤n∧i=.int .i64 k∧v=.int .i64 ((foldM (l.take k)).1:Nat)∧Box wr b1 #[.bool (foldM (l.take k)).2] 4∧Box wr b2 #[.int .i64 (aF:Nat)] 3∧wr.heap[b]?=w.heap[b]?∧∀ B,B≤b1→B≤w.heap.size→Below B w wr) (fun _ i _=>n - (intOf i).toNat)
 case atStart=>exact⟨0,Nat.zero_le _,rfl,rfl,hY,hB,rfl,fun B _ _=>Below.refl _ _⟩
 case round =>
  clear hY hB
  obtain⟨k,hk,rfl,rfl,hY,hB,hbk,hBl⟩:=hrel
  by_cases hlt:k<n
  ·have hk2:k<l.length:=by rw[←HN.out];exact hlt
   have y0:=HC.out k hk2 wr hbk
   have hx:=HL.out _ (List.getElem_mem hk2)
   have hst:=adl (foldM (l.take k)).1 l[k] b1 b2 (foldM (l.take k)).2 wr (RF _) hx hY hB
   have hft:=X3 l k hk2
   have HFT:=ah hft
   clear hft
   generalize l[k]=x at *
   generalize foldM (l.take k)=s at *
   obtain⟨s1,s2⟩:=s
   have h0x:(0:Int)≤(x:Int):=by omega
   have hmx:max (x:Int) 0=(x:Int):=by omega
   have HS:=ah hst
   clear hst hx
   have hki:(k:Int)<(n:Int):=by omega
   have hk0:(0:Int)≤(k:Int):=by omega
   go_wp2_with (go_at_call 306;go_must (refine HS.out.mono ?_;rintro e w2 ⟨rfl,hw2⟩))
   refine⟨⟨k+1,hlt,by push_cast;rfl,by rw[HFT.out],?_,?_,?_,?_⟩,by simp[intOf];omega⟩
   ·rw[HFT.out]
    rcases hw2 with⟨rfl,h2⟩ | ⟨rfl,h2⟩
    ·rw[h2];exact hY
    ·rw[h2];exact hY.set 0 _
   ·rcases hw2 with⟨rfl,_⟩ | ⟨rfl,_⟩
    ·exact hB
    ·exact hB.other _ _ hne
   ·rcases hw2 with⟨rfl,_⟩ | ⟨rfl,_⟩
    ·exact hbk
    ·exact(heap_setCell_other wr ⟨b1,0,none⟩ b _ hbb).trans hbk
   ·intro B h1 h2
    rcases hw2 with⟨rfl,_⟩ | ⟨rfl,_⟩
    ·exact hBl B h1 h2
    ·exact(hBl B h1 h2).setCell (p:=⟨b1,0,none⟩) h1 _
  ·obtain rfl:k=n:=by omega
   rw[List.take_of_length_le (by rw[HN.out];exact Nat.le_refl _)] at hY ⊢
   go_wp2
   go_ret
   exact⟨rfl,hY,hB,hBl⟩
theorem V8(b o cap n:Nat)(l:List Nat)(w:World)(h:ak w (.slice (some ⟨b,o,none⟩) n cap) 1 aG l)(hl:∀ x∈l,x≤9223372036854775807)(hb:b<w.heap.size) :
  Calls Tryz.prog 281 #[.int .i64 (aF:Nat),.slice (some ⟨b,o,none⟩) n cap] w (bM w (.int .i64 (mulR (foldM l):Nat))):=by
 have hmf:∀ (fn:Fn) (first cap:Array Value) (w:World),(Instr.makeFunc fn first cap).run Tryz.prog w=.ok (.func fn first cap) w:=fun _ _ _ _=>rfl
 have hB0:Below w.heap.size w ((w.alloc (.cells #[.int .i64 (aF:Nat)] 3)).alloc (.cells #[.bool false] 4)):=((Below.refl _ w).alloc (Nat.le_refl _) _).alloc (by simp) _
 have hf:=adn b o cap n (w.heap.size+1) w.heap.size l _ (h.kept hB0) hl (Box.new' (by simp) _ _) ((Box.new w _ _).alloc _) (by omega) (by omega)
 have HF:=ah hf
 have hle:=RF l
 unfold aF at HF hB0 hle
 have hv:mulR (foldM l)=if (foldM l).1≠0∧(foldM l).2=true then 1099511627776 else (foldM l).1:=rfl
 rw[hv]
 unfold aF
 generalize foldM l=s at *
 obtain⟨s1,s2⟩:=s
 dsimp only at hle
 clear hf h hl hv
 by_cases h1:s1=0
 ·subst h1
  rw[if_neg (by simp)]
  go_enter Tryz.func281,Tryz.ntmps281
  go_wp2_with (go_at_call 229;go_must (refine HF.out.mono ?_;rintro e w2 ⟨rfl,hY2,hT2,hb2⟩;have c0:w2.cell? ⟨w.heap.size,0,none⟩=some (.int .i64 1099511627776):=hT2.cell 0;have c1:w2.cell? ⟨w.heap.size+1,0,none⟩=some (.bool s2):=hY2.cell 0))
  go_ret
  exact⟨rfl,hB0.trans (hb2 _ (by omega) hB0.size)⟩
 ·have e1:((s1:Int) != 0)=true:=by rw[bne_iff_ne];omega
  have hmin:min (s1:Int) 1099511627776=(s1:Int):=by omega
  have hle2:(s1:Int)≤1099511627776:=by omega
  cases s2 with
  | true =>
   rw[if_pos ⟨h1,rfl⟩]
   clear h1
   go_enter Tryz.func281,Tryz.ntmps281
   go_wp2_with (go_at_call 229;go_must (refine HF.out.mono ?_;rintro e w2 ⟨rfl,hY2,hT2,hb2⟩;have c0:w2.cell? ⟨w.heap.size,0,none⟩=some (.int .i64 1099511627776):=hT2.cell 0;have c1:w2.cell? ⟨w.heap.size+1,0,none⟩=some (.bool true):=hY2.cell 0))
   go_ret
   exact⟨rfl,hB0.trans (hb2 _ (by omega) hB0.size)⟩
  | false =>
   rw[if_neg (by simp)]
   clear h1
   go_enter Tryz.func281,Tryz.ntmps281
   go_wp2_with (go_at_call 229;go_must (refine HF.out.mono ?_;rintro e w2 ⟨rfl,hY2,hT2,hb2⟩;have c0:w2.cell? ⟨w.heap.size,0,none⟩=some (.int .i64 1099511627776):=hT2.cell 0;have c1:w2.cell? ⟨w.heap.size+1,0,none⟩=some (.bool false):=hY2.cell 0))
   go_ret
   exact⟨rfl,hB0.trans (hb2 _ (by omega) hB0.size)⟩
end
section
open Go.RowKit
theorem bQ:fD aG 1:=⟨fun _=>rfl,fun x u hu=>by simp[aG] at hu;subst hu;rfl⟩
theorem xU:∀ (l:List Tr) (a:Nat),a≤aF→bT a l≤aF
 | [],a,h=>by rw[bT];exact h
 | x::l,a,h=>by rw[bT];exact xU l _ (sW h)
theorem zD(x:Tr):bF x≤aF:=by
 obtain⟨k,s,kids,lo,hi⟩:=x
 rw[bF]
 have h0:=xU kids 0 (by simp[aF])
 split
 ·exact h0
 ·split
  ·dsimp only
   split
   ·simp[aF]
   ·split
    ·exact sW (sW Dh)
    ·split
     ·exact sW (sW Dh)
     ·exact Dh
  ·exact sW h0
theorem FD{a:Nat}(h:a≤aF):addN 0 a=a:=by unfold addN;rw[if_neg (by omega)];omega
theorem Ad{a b:Nat}(h:a≤aF):Ac [a,b]=addN a b:=by
 show addN (addN 0 a) b=_
 rw[FD h]
theorem Le{a b c:Nat}(h:a≤aF):Ac [a,b,c]=addN (addN a b) c:=by
 show addN (addN (addN 0 a) b) c=_
 rw[FD h]
theorem Qj(l:List Tr)(j:Nat)(h:j<l.length):bT 0 (l.take (j+1))=addN (bT 0 (l.take j)) (bF l[j]):=by
 have:∀ (l m:List Tr) (a:Nat),bT a (l++m)=bT (bT a l) m:=by
  intro l m
  induction l with
  | nil=>intro a;rw[List.nil_append,bT]
  | cons x l ih=>intro a;rw[List.cons_append,bT,bT,ih]
 rw[List.take_succ_eq_append_getElem h,this,bT,bT]
theorem qo(w:World)(l:List Nat)(h:l.length≤9):ak (w.alloc (.cells (l.map fun n:Nat=>Value.int .i64 n).toArray 3)) (.slice (some ⟨w.heap.size,0,none⟩) l.length l.length) 1 aG l:=by
 have e:(l.map fun n:Nat=>Value.int .i64 n)=l.flatMap aG:=by
  clear h
  induction l with
  | nil=>rfl
  | cons x l ih=>rw[List.flatMap_cons,List.map_cons,ih];rfl
 rw[e]
 exact pR bQ w 3 l (by simp[maxLen];omega)
theorem X4(kids:List Vt)(a:Option Addr)(cap:Nat)(w:World)(sA:ak w (.slice a kids.length cap) 8 Vt.cells kids)(lA:∀ i (h:i<kids.length),Lies w kids[i])
  (ih:∀ i (h:i<kids.length) (u:World),Lies u kids[i]→Calls Tryz.prog 185 #[.agg kids[i].cells.toArray] u (bM u (.int .i64 (bF kids[i].tr:Nat)))) :
  Calls Tryz.prog 183 #[.func (.func 185) #[] #[],.slice a kids.length cap] w (bM w (.int .i64 (bT 0 (kids.map Vt.tr):Nat))):=by
 obtain⟨b,o,c1,c2,c3,c4,c5⟩:=sA.kids
 clear sA c4
 have HC:=ah c5;have HI:=ah ih;have LA:=ah lA
 clear c5 ih lA
 obtain⟨n,hn⟩:∃ n,kids.length=n:=⟨_,rfl⟩
 have HN:=ah hn
 have h3:∀ i,i<n→a=some ⟨b,o,none⟩:=by rw[←hn];exact c3
 have hnc:n≤cap:=by rw[←hn];exact c1
 rw[hn]
 clear c3 c1 hn
 go_enter Tryz.func183,Tryz.ntmps183
 go_wp2
 go_loopw [5,10] (fun v i wr=>∃ k:Nat,k≤n∧i=.int .i64 k∧v=.int .i64 (bT 0 ((kids.map Vt.tr).take k):Nat)∧Below w.heap.size w wr) (fun _ i _=>n - (intOf i).toNat)
 case atStart=>exact⟨0,Nat.zero_le _,rfl,rfl,Below.refl _ _⟩
 case round =>
  obtain⟨k,hk,rfl,rfl,hB⟩:=hrel
  by_cases hlt:k<n
  ·have hlk:k<kids.length:=by rw[HN.out];exact hlt
   obtain rfl:=h3 k hlt
   have e1:=HC.out k hlk wr hB
   have hw:=Qj (kids.map Vt.tr) k (by simpa using hlk)
   rw[List.getElem_map] at hw
   have hs1:bT 0 ((kids.map Vt.tr).take k)≤aF:=xU _ _ (by simp[aF])
   have hx1:=zD kids[k].tr
   have hlies:=LA.out k hlk
   have hcall:=HI.out k hlk
   generalize kids[k]=V at *
   generalize bF V.tr=x at *
   generalize bT 0 ((kids.map Vt.tr).take k)=s at *
   obtain⟨k5,s5,a5,cp5,cZ,dh,hi5⟩:=V
   obtain⟨x0,x1,x2,x3,x4,x5,x6,x7⟩:=qX e1
   have hbl:=World.block_lt_of_cell? wr _ x0
   have hB1:=hB.trans ((aj wr (.cells (aC k5 s5 a5 cZ.length cp5 dh hi5).toArray 151)).mono hB.size)
   have hcl:=hcall _ (hlies.kept hB1)
   have hadd:=fun u=>xB u.heap.size 0 2 2 [s,x] (u.alloc (.cells #[.int .i64 (s:Nat),.int .i64 (x:Nat)] 3)) (qo u [s,x] (by simp)) (by intro y hy;simp at hy;rcases hy with rfl | rfl;exact hs1;exact hx1)
   obtain⟨s2,hs2⟩:∃ s2,bT 0 ((kids.map Vt.tr).take (k+1))=s2:=⟨_,rfl⟩
   rw[Ad hs1,←hw,hs2] at hadd
   have HS2:=ah hs2
   have pV:=ah hcl
   have HAD:=ah hadd
   clear e1 hw hlies hcall hcl hadd hs1 hx1 hs2
   have hki:(k:Int)<(n:Int):=by omega
   have hk0:(0:Int)≤(k:Int):=by omega
   unfold aF at HAD
   go_wp2_with (first | (go_at_call 185;go_must (refine pV.out.mono ?_;rintro e w2 ⟨rfl,hb2⟩;have hB2:=hB1.trans (hb2.mono hB1.size);have hB3:=hB2.trans ((aj w2 (.cells #[.int .i64 (s:Nat),.int .i64 (x:Nat)] 3)).mono hB2.size))) | (go_at_call 182;go_must (refine(HAD.out _).mono ?_;rintro e w4 ⟨rfl,hb4⟩)))
   exact⟨⟨k+1,hlt,by push_cast;rfl,by rw[HS2.out],hB3.trans (hb4.mono hB3.size)⟩,by simp[intOf];omega⟩
  ·obtain rfl:k=n:=by omega
   rw[List.take_of_length_le (by rw[List.length_map,HN.out];exact Nat.le_refl _)]
   go_wp2
   go_ret
   exact⟨rfl,hB⟩
end
end Go.Proofs.YtbemonecmmnlcaaGreatDoor
