/- The texts of E10, in few letters (mini.py). -/
import Derived.Shelf.Bytes.SlSmallAll
import Derived.Test.YtengfapcaaacaaaGreatDoorF7
set_option linter.unusedVariables false
set_option linter.unusedSimpArgs false
set_option maxHeartbeats 3200000
set_option maxRecDepth 20000
namespace Go.Proofs.YtengfapcaaacaaaGreatDoor
section
open Go.RowKit
def Rw(l:List Nat):ByteArray:=strOfNums (l.map fun(x:Nat)=>(x:Int))
theorem OA{P:Program}{w:World}{src dst e:TypeId}(hs:P.underlying src=some (.slice e))(he:P.underlying e=some (.int .u8))(hd:P.underlying dst=some .string){a:Option Addr}{cap n:Nat}{xs:List Nat}(hn:n=xs.length)(h:au w (.slice a n cap) 1 dY xs) :
  (convert src dst (.slice a n cap)).run P w=.ok (.string (Rw xs)) w:=by
 subst hn
 obtain⟨a',b,o,cap',hv,hl,hc,ha,hx⟩:=h
 obtain⟨rfl,_,rfl⟩:=Value.slice.inj hv
 rcases ha with rfl | ⟨rfl,_⟩
 ·refine run_convert_bytes_arg w src e hs he b o xs.length cap (xs.map fun(x:Nat)=>(x:Int)) (by simp) (fun i hi=>?_) dst hd
  have:=hx i hi 0 _ rfl
  rw[Nat.mul_one,Nat.add_zero] at this
  rw[this]
  simp[List.getD,hi]
 ·exact run_convert_bytes_zero w src e hs he a cap dst hd
theorem cO{P:Program}{o:Oper}{a:Act}{w:World}(ty:TypeId)(x:Operand)(ho:o.op=.load ty x)(g:Nat)(hx:a.eval x=.pointer (some ⟨g,0,none⟩)){cs:Array Value}{E:Nat}(hb:Box w g cs E)
  {d:TypeDesc} (hu:P.underlying ty=some d) (hd:(match d with | .struct _ | .array _ _=>true | _=>false)=true) (hi:(P.info? ty).map (·.size)=some cs.size):(execOp a.eval o).run P w=.ok (.value (.agg cs)) w:=by
 unfold execOp
 simp only[ho,hx,Instr.loadAt,Instr.sureAddr,Sem.run_bind,Sem.run_pure,Result.andThen_ok,run_loadVar_row w g E ty cs (0,0) d hb hu hd hi]
end
section
open Go.RowKit
abbrev sv(l:List UInt8):Value:=.string ⟨l.toArray⟩
abbrev gI(x:UInt8):List Value:=[.int .u8 (x.toNat:Nat)]
abbrev encI(n:Int):List Value:=[.int .i64 n]
abbrev jl(l:List UInt8):List Value:=[sv l]
abbrev adn(v:Value):List Value:=[v]
theorem CX:dX gI 1:=⟨fun _=>rfl,fun x u hu=>by simp[gI] at hu;subst hu;rfl⟩
theorem kJ:dX encI 1:=⟨fun _=>rfl,fun x u hu=>by simp[encI] at hu;subst hu;rfl⟩
theorem pX:dX jl 1:=⟨fun _=>rfl,fun x u hu=>by simp[jl] at hu;subst hu;rfl⟩
theorem VW(a:List UInt8):(⟨a.toArray⟩:ByteArray).size=a.length:=by simp[ByteArray.size]
theorem ado{w:World}{v:Value}{xs:List UInt8}(h:au w v 1 gI xs):au w v 1 dY (xs.map fun x=>x.toNat):=by
 obtain⟨a,b,o,cap,hv,hl,hc,ha,hx⟩:=h
 refine⟨a,b,o,cap,by rw[List.length_map];exact hv,by rw[List.length_map];exact hl,hc,ha.imp id (fun⟨h1,h2⟩=>⟨by simp[h1],h2⟩),fun i hi j u hu=>?_⟩
 rw[List.length_map] at hi
 refine hx i hi j u ?_
 rw[List.getElem_map] at hu
 exact hu
theorem X8(xs:List UInt8):Rw (xs.map fun x=>x.toNat)=⟨xs.toArray⟩:=by
 unfold Rw strOfNums
 simp only[List.map_map]
 congr 1
 congr 1
 conv=>rhs;rw[←List.map_id xs]
 exact List.map_congr_left fun x _=>by simp
theorem OB{P:Program}{w:World}{src dst e:TypeId}(hs:P.underlying src=some (.slice e))(he:P.underlying e=some (.int .u8))(hd:P.underlying dst=some .string){a:Option Addr}{cap n:Nat}{xs:List UInt8}(hn:n=xs.length)(h:au w (.slice a n cap) 1 gI xs) :
  (convert src dst (.slice a n cap)).run P w=.ok (sv xs) w:=by
 have:=OA hs he hd (xs:=xs.map fun x=>x.toNat) (by rw[List.length_map];exact hn) (ado h)
 rwa[X8] at this
theorem au.bU{α:Type}{f:α→Value}{w:World}{a:Option Addr}{n cap:Nat}{xs:List α}(h:au w (.slice a n cap) 1 (fun x=>[f x]) xs) :
  ∃ b o,n=xs.length∧xs.length≤cap∧cap≤9223372036854775807∧(∀ i,i<xs.length→a=some ⟨b,o,none⟩) ∧
   ∀ i (h:i<xs.length) (w':World),Below w.heap.size w w'→w'.cell? ⟨b,o+i,none⟩=some (f xs[i]):=by
 obtain⟨b,o,h1,h2,h3,h4,h5⟩:=h.open
 refine⟨b,o,h1,h2,h3,h4,fun i hi w' hB=>?_⟩
 have:=h5 i hi 0 _ rfl
 rw[Nat.mul_one,Nat.add_zero] at this
 rw[hB.cell (World.block_lt_of_cell? w _ this)];exact this
theorem yN{α:Type}{enc:α→List Value}{size:Nat}{P:Program}{ops:Array Oper}{rest:List Oper}{o:Oper}{a:Act}{w:World}{Q:Exit→Act→World→Prop}(hgd:o.guard=none)(t:TypeId)(x y:Operand)(ho:o.op=.makeSlice t x y)
  {E:TypeId} {z:Value} {bytes:Nat} (hE:dI P t E z size bytes) (he:dX enc size) (c:Nat) (hx:a.eval x=.int .i64 0) (hy:a.eval y=.int .i64 c) (hbytes:bytes*c≤281474976710656) (h63:c≤maxLen) (base:Nat) (hb:base≤w.heap.size)
  (h:∀ w1,Own w1 base E size enc (.slice (some ⟨w.heap.size,0,none⟩) 0 c) ([]:List α)→w.grownBy w1 none→wpList P ops Q rest (a.put o.dst (.slice (some ⟨w.heap.size,0,none⟩) 0 c)) w1):wpList P ops Q (o::rest) a w:=by
 obtain⟨i,hi,hiz,his,hib⟩:=hE.info
 subst hib
 refine wpList_plain hgd fun K hK=>?_
 obtain⟨w1,hr,hown,hg⟩:=run_make_own (P:=P) w base t E i z size hE.slice hi hiz his .i64 .i64 c hbytes h63 hb
 unfold Oper.wp execOp
 simp only[ho,hx,hy,Sem.run_bind,Sem.run_pure,Result.andThen_ok,hr,Oper.upon]
 exact hK _ _ (h _ (Own.ofRow (xs:=([]:List α)) hown he) hg)
end
section
open Go.RowKit
theorem AZ{w:World}{a b:Bool}(h:a=b):bF w (.bool a) (.returned (.bool b)) w:=⟨by rw[h],Below.refl _ _⟩
theorem X9{a b:Bool}(h:a=b):Ending.returned (.bool b)=.returned (.bool a):=by rw[h]
def pY(x:Nat):Bool:=x==95||(decide (97≤x)&&decide (x≤122))||(decide (65≤x)&&decide (x≤90))
def sU(x:Nat):Bool:=decide (48≤x)&&decide (x≤57)
def qM(x:Nat)(first:Bool):Bool:=pY x||(!first&&sU x)
theorem an5:∀ x:Nat,x<256→∃ y:Nat,bits BinOp.or IntKind.u8 (x:Int) 32=(y:Int)∧pY x=(x==95||(decide (97≤y)&&decide (y≤122)))∧y<256:=by
 have h:(List.range 256).all (fun(x:Nat)=>bits BinOp.or IntKind.u8 (x:Int) 32==((bits BinOp.or IntKind.u8 (x:Int) 32).toNat:Int)&&(pY x==(x==95||(decide (97≤(bits BinOp.or IntKind.u8 (x:Int) 32).toNat)&&decide ((bits BinOp.or IntKind.u8 (x:Int) 32).toNat≤122))))&&decide ((bits BinOp.or IntKind.u8 (x:Int) 32).toNat<256))=true:=by decide +kernel
 intro x hx
 have h2:=List.all_eq_true.1 h x (by simpa using hx)
 simp only[Bool.and_eq_true,beq_iff_eq,decide_eq_true_eq] at h2
 exact⟨_,h2.1.1,h2.1.2,h2.2⟩
theorem Rx(x:Nat)(h:sU x=true):pY x=false:=by
 unfold sU at h
 unfold pY
 rw[Bool.eq_false_iff]
 simp at h ⊢
 omega
def runFrom:Bool→List UInt8→Nat
 | _,[]=>0
 | first,c::r=>if qM c.toNat first then runFrom false r+1 else 0
theorem vH:∀ (b:Bool) (l:List UInt8),runFrom b l≤l.length
 | _,[]=>Nat.le_refl _
 | b,c::r=>by
  rw[runFrom];split
  ·have:=vH false r;simp;exact this
  ·simp
def jh(s:List UInt8):Bool:=!s.isEmpty&&decide (s.length≤32)&&(runFrom true s==s.length)
theorem Ia(x:Nat)(w:World)(hx:x<256):Calls Tryz.prog 123 #[.int .u8 x] w (bF w (.bool (pY x))):=by
 obtain⟨y,hy,hl,hy2⟩:=an5 x hx
 rw[hl]
 by_cases h0:x=95
 ·subst h0
  clear hl hy
  go_enter Tryz.func123,Tryz.ntmps123
  go_wp2
  go_ret
  exact⟨rfl,Below.refl _ _⟩
 ·have e0:((x:Int)==95)=false:=by simp;omega
  have e1:(x==95)=false:=by simp;omega
  rw[e1,Bool.false_or]
  clear e1 hl
  by_cases h1:97≤y
  ·have e2:decide (97≤(y:Int))=true:=by simp;omega
   go_enter Tryz.func123,Tryz.ntmps123
   go_wp2
   go_ret
   exact AZ (by rw[Bool.eq_iff_iff];simp;omega)
  ·have e2:decide (97≤(y:Int))=false:=by simp;omega
   go_enter Tryz.func123,Tryz.ntmps123
   go_wp2
   go_ret
   exact AZ (by rw[Bool.eq_iff_iff];simp;omega)
theorem aan(x:Nat)(first:Bool)(w:World)(hx:x<256):Calls Tryz.prog 82 #[.int .u8 x,.bool first] w (bF w (.bool (qM x first))):=by
 cases hd:sU x with
 | true =>
  have hl:=Rx x hd
  have e:qM x first=!first:=by unfold qM;rw[hl,hd];simp
  rw[e]
  unfold sU at hd
  simp only[Bool.and_eq_true,decide_eq_true_eq] at hd
  obtain⟨d1,d2⟩:=hd
  have e1:decide (48≤(x:Int))=true:=by simp;omega
  have e2:decide ((x:Int)≤57)=true:=by simp;omega
  clear e hl
  go_enter Tryz.func82,Tryz.ntmps82
  go_wp2
  go_ret
  exact⟨rfl,Below.refl _ _⟩
 | false =>
  have e:qM x first=pY x:=by unfold qM;rw[hd];simp
  rw[e]
  unfold sU at hd
  simp only[Bool.and_eq_false_iff,decide_eq_false_iff_not] at hd
  have hd':x<48∨57<x:=by omega
  clear e hd
  unfold pY
  by_cases a1:97≤x
  ·have e1:decide (97≤(x:Int))=true:=by simp;omega
   have e2:decide (48≤(x:Int))=true:=by simp;omega
   have e3:decide ((x:Int)≤57)=false:=by simp;omega
   by_cases a2:x≤122
   ·have e4:decide ((x:Int)≤122)=true:=by simp;omega
    clear hd'
    go_enter Tryz.func82,Tryz.ntmps82
    go_wp2
    go_ret
    exact AZ (by rw[Bool.eq_iff_iff];simp;omega)
   ·have e4:decide ((x:Int)≤122)=false:=by simp;omega
    have e5:decide (65≤(x:Int))=true:=by simp;omega
    have e6:decide ((x:Int)≤90)=false:=by simp;omega
    clear hd'
    go_enter Tryz.func82,Tryz.ntmps82
    go_wp2
    go_ret
    exact AZ (by rw[Bool.eq_iff_iff];simp;omega)
  ·have e1:decide (97≤(x:Int))=false:=by simp;omega
   have key:∀ b:Bool,b=(decide (48≤(x:Int))&&decide ((x:Int)≤57))→b=false:=fun b hb=>by rw[hb,Bool.eq_false_iff];simp;omega
   clear key
   by_cases a2:65≤x
   ·have e2:decide (48≤(x:Int))=true:=by simp;omega
    have e3:decide ((x:Int)≤57)=false:=by simp;omega
    have e5:decide (65≤(x:Int))=true:=by simp;omega
    by_cases a3:x≤90
    ·have e6:decide ((x:Int)≤90)=true:=by simp;omega
     clear hd'
     go_enter Tryz.func82,Tryz.ntmps82
     go_wp2
     go_ret
     exact AZ (by rw[Bool.eq_iff_iff];simp;omega)
    ·have e6:decide ((x:Int)≤90)=false:=by simp;omega
     clear hd'
     go_enter Tryz.func82,Tryz.ntmps82
     go_wp2
     go_ret
     exact AZ (by rw[Bool.eq_iff_iff];simp;omega)
   ·have e5:decide (65≤(x:Int))=false:=by simp;omega
    by_cases a3:48≤x
    ·have e2:decide (48≤(x:Int))=true:=by simp;omega
     have e3:decide ((x:Int)≤57)=false:=by simp;omega
     clear hd'
     go_enter Tryz.func82,Tryz.ntmps82
     go_wp2
     go_ret
     exact AZ (by rw[Bool.eq_iff_iff];simp;omega)
    ·have e2:decide (48≤(x:Int))=false:=by simp;omega
     clear hd'
     go_enter Tryz.func82,Tryz.ntmps82
     go_wp2
     go_ret
     exact AZ (by rw[Bool.eq_iff_iff];simp;omega)
def sV:Bool→List UInt8→Bool
 | _,[]=>true
 | first,c::r=>qM c.toNat first&&sV false r
theorem Ib:∀ (b:Bool) (l:List UInt8),(runFrom b l==l.length)=sV b l
 | _,[]=>by simp[runFrom,sV]
 | b,c::r=>by
  have ih:=Ib false r
  rw[runFrom,sV]
  cases qM c.toNat b with
  | true=>rw[if_pos rfl,Bool.true_and,←ih];simp[Bool.beq_eq_decide_eq]
  | false=>rw[if_neg (by simp)];simp
theorem aao(s:List UInt8):jh s=(sV true s&&(decide (1≤s.length)&&decide (s.length≤32))):=by
 unfold jh
 rw[Ib]
 cases s with
 | nil=>simp
 | cons a r=>cases h:sV true (a::r) <;> simp
theorem drop_at{α:Type}(l:List α)(k:Nat)(h:k<l.length):l.drop k=l[k]::l.drop (k+1):=(List.getElem_cons_drop h).symm
theorem KD(s:List UInt8)(w:World)(hs:s.length≤9223372036854775807):Calls Tryz.prog 46 #[sv s] w (bF w (.bool (jh s))):=by
 obtain⟨n,hn⟩:∃ n,s.length=n:=⟨_,rfl⟩
 have hix:∀ (k:Nat) (h:k<(⟨s.toArray⟩:ByteArray).size) (h2:k<s.length),(⟨s.toArray⟩:ByteArray)[k]=s[k]:=fun k h h2=>rfl
 have e:=aao s
 rw[hn] at e
 have hsz:(⟨s.toArray⟩:ByteArray).size=n:=by rw[VW,hn]
 have HE:=ah e
 have KE:=ah hix
 have HN:=ah hn
 rw[hn] at hs
 clear e hix
 go_enter Tryz.func46,Tryz.ntmps46
 go_wp2
 go_loopw [3] (fun i wr=>∃ k:Nat,k≤n∧i=.int .i64 k∧sV true s=sV (k==0) (s.drop k)∧Below w.heap.size w wr) (fun i _=>n - (intOf i).toNat)
 case atStart=>exact⟨0,Nat.zero_le _,rfl,rfl,Below.refl _ _⟩
 case round =>
  obtain⟨k,hk,rfl,ha,hB⟩:=hrel
  by_cases hlt:k<n
  ·have hk2:k<s.length:=by rw[HN.out];exact hlt
   rw[drop_at s k hk2,sV] at ha
   have hi:=fun h=>KE.out k h hk2
   have hm:=fun w=>aan s[k].toNat (k==0) w s[k].toNat_lt
   have hk0:((k:Int)==0)=(k==0):=by rw[Bool.eq_iff_iff];simp
   generalize s[k]=c at *
   generalize hf:(k==0)=f at *
   cases wE:qM c.toNat f with
   | true =>
    rw[wE] at hm
    rw[wE,Bool.true_and] at ha
    have HM:=ah hm
    have HA:=ah ha
    clear hm ha wE hf
    go_wp2_with (go_at_call 82;go_must (refine(HM.out _).mono ?_;rintro e w1 ⟨rfl,hB1⟩))
    go_roundw
    case rel=>exact⟨k+1,hlt,by go_num,by rw[HA.out];rfl,hB.trans (hB1.mono hB.size)⟩
    case measure=>simp[intOf];omega
   | false =>
    rw[wE] at hm
    rw[wE,Bool.false_and] at ha
    have HM:=ah hm
    have HA:=ah ha
    clear hm ha wE hf
    go_wp2_with (go_at_call 82;go_must (refine(HM.out _).mono ?_;rintro e w1 ⟨rfl,hB1⟩))
    go_ret
    exact⟨by rw[HE.out,HA.out];rfl,hB.trans (hB1.mono hB.size)⟩
  ·obtain rfl:k=n:=by omega
   rw[List.drop_eq_nil_of_le (by rw[HN.out];exact Nat.le_refl _),sV] at ha
   have HA:=ah ha
   clear ha
   by_cases h1:1≤k
   ·have e1:decide (1≤(k:Int))=true:=by simp;omega
    go_wp2
    go_ret
    exact⟨by rw[HE.out,HA.out];exact X9 (by rw[Bool.eq_iff_iff];simp;omega),hB⟩
   ·have e1:decide (1≤(k:Int))=false:=by simp;omega
    go_wp2
    go_ret
    exact⟨by rw[HE.out,HA.out];exact X9 (by rw[Bool.eq_iff_iff];simp;omega),hB⟩
theorem adp(s:List UInt8)(w:World)(hs:s.length≤9223372036854775807):Calls Tryz.prog 79 #[sv s] w (bF w (.int .i64 (runFrom true s:Nat))):=by
 obtain⟨n,hn⟩:∃ n,s.length=n:=⟨_,rfl⟩
 have hix:∀ (k:Nat) (h:k<(⟨s.toArray⟩:ByteArray).size) (h2:k<s.length),(⟨s.toArray⟩:ByteArray)[k]=s[k]:=fun k h h2=>rfl
 have hsz:(⟨s.toArray⟩:ByteArray).size=n:=by rw[VW,hn]
 have KE:=ah hix
 have HN:=ah hn
 rw[hn] at hs
 clear hix
 go_enter Tryz.func79,Tryz.ntmps79
 go_wp2
 go_loopw [3] (fun i wr=>∃ k:Nat,k≤n∧i=.int .i64 k∧runFrom true s=k+runFrom (k==0) (s.drop k)∧Below w.heap.size w wr) (fun i _=>n - (intOf i).toNat)
 case atStart=>exact⟨0,Nat.zero_le _,rfl,by simp,Below.refl _ _⟩
 case round =>
  obtain⟨k,hk,rfl,ha,hB⟩:=hrel
  by_cases hlt:k<n
  ·have hk2:k<s.length:=by rw[HN.out];exact hlt
   rw[drop_at s k hk2,runFrom] at ha
   have hi:=fun h=>KE.out k h hk2
   have hm:=fun w=>Ia s[k].toNat w s[k].toNat_lt
   have hc256:=s[k].toNat_lt
   generalize s[k]=c at *
   by_cases hl:pY c.toNat=true
   ·rw[hl] at hm
    have wE:qM c.toNat (k==0)=true:=by unfold qM;rw[hl];rfl
    rw[wE,if_pos rfl] at ha
    have HM:=ah hm
    have HA:=ah ha
    clear hm ha wE hl
    go_wp2_with (go_at_call 123;go_must (refine(HM.out _).mono ?_;rintro e w1 ⟨rfl,hB1⟩))
    go_roundw
    case rel=>exact⟨k+1,hlt,by go_num,by rw[HA.out];simp;omega,hB.trans (hB1.mono hB.size)⟩
    case measure=>simp[intOf];omega
   ·have hl:=Bool.eq_false_iff.2 hl
    rw[hl] at hm
    have wE:qM c.toNat (k==0)=(!(k==0)&&sU c.toNat):=by unfold qM;rw[hl];rfl
    rw[wE] at ha
    have HM:=ah hm
    unfold sU at ha
    clear hm wE hl
    by_cases h0:k=0
    ·subst h0
     have HA:=ah ha
     clear ha
     go_wp2_with (go_at_call 123;go_must (refine(HM.out _).mono ?_;rintro e w1 ⟨rfl,hB1⟩))
     go_ret
     exact⟨by rw[HA.out];rfl,hB.trans (hB1.mono hB.size)⟩
    ·have e0:decide (0<(k:Int))=true:=by simp;omega
     have e00:(0<k):=by omega
     have hkb:(k==0)=false:=by simp;omega
     rw[hkb] at ha
     by_cases d1:48≤c.toNat
     ·have e1:decide (48≤(c.toNat:Int))=true:=by simp;omega
      by_cases d2:c.toNat≤57
      ·have e2:decide ((c.toNat:Int)≤57)=true:=by simp;omega
       rw[if_pos (by simp[d1,d2])] at ha
       have HA:=ah ha
       clear ha hkb h0
       go_wp2_with (go_at_call 123;go_must (refine(HM.out _).mono ?_;rintro e w1 ⟨rfl,hB1⟩))
       go_roundw
       case rel=>exact⟨k+1,hlt,by go_num,by rw[HA.out];simp;omega,hB.trans (hB1.mono hB.size)⟩
       case measure=>simp[intOf];omega
      ·have e2:decide ((c.toNat:Int)≤57)=false:=by simp;omega
       rw[if_neg (by simp[d1,d2])] at ha
       have HA:=ah ha
       clear ha hkb h0
       go_wp2_with (go_at_call 123;go_must (refine(HM.out _).mono ?_;rintro e w1 ⟨rfl,hB1⟩))
       go_ret
       exact⟨by rw[HA.out];rfl,hB.trans (hB1.mono hB.size)⟩
     ·have e1:decide (48≤(c.toNat:Int))=false:=by simp;omega
      rw[if_neg (by simp[d1])] at ha
      have HA:=ah ha
      clear ha hkb h0
      go_wp2_with (go_at_call 123;go_must (refine(HM.out _).mono ?_;rintro e w1 ⟨rfl,hB1⟩))
      go_ret
      exact⟨by rw[HA.out];rfl,hB.trans (hB1.mono hB.size)⟩
  ·obtain rfl:k=n:=by omega
   rw[List.drop_eq_nil_of_le (by rw[HN.out];exact Nat.le_refl _),runFrom] at ha
   have HA:=ah ha
   clear ha
   go_wp2
   go_ret
   exact⟨by rw[HA.out];rfl,hB⟩
theorem A8(s:List UInt8)(w:World)(hs:s.length≤9223372036854775807):Calls Tryz.prog 42 #[sv s] w (bF w (.bool (jh s))):=by
 have hr:=fun w=>adp s w hs
 have hle:=vH true s
 unfold jh
 generalize runFrom true s=r at *
 have HR:=ah hr
 clear hr
 cases s with
 | nil =>
  go_enter Tryz.func42,Tryz.ntmps42
  go_wp2_with (go_at_call 79;go_must (refine(HR.out _).mono ?_;rintro e w1 ⟨rfl,hB1⟩))
  go_ret
  exact⟨rfl,Below.refl _ _⟩
 | cons a l =>
  have e0:((!(a::l).isEmpty&&decide ((a::l).length≤32)&&r==(a::l).length):Bool)=(decide (l.length+1≤32)&&r==l.length+1):=rfl
  rw[e0]
  rw[List.length_cons] at hle hs
  generalize hm:l.length=m at *
  have HM:=ah hm
  have hle2:(r:Int)≤(m:Int)+1:=by omega
  by_cases h1:m+1≤32
  ·have e1:decide ((m:Int)+1≤32)=true:=by simp;omega
   go_enter Tryz.func42,Tryz.ntmps42
   go_wp2_with (go_at_call 79;go_must (refine(HR.out _).mono ?_;rintro e w1 ⟨rfl,hB1⟩))
   go_ret
   exact⟨X9 (by rw[Bool.eq_iff_iff];simp;omega),hB1⟩
  ·have e1:decide ((m:Int)+1≤32)=false:=by simp;omega
   go_enter Tryz.func42,Tryz.ntmps42
   go_wp2_with (go_at_call 79;go_must (refine(HR.out _).mono ?_;rintro e w1 ⟨rfl,hB1⟩))
   go_ret
   exact⟨X9 (by rw[Bool.eq_iff_iff];simp;omega),Below.refl _ _⟩
end
section
open Go.RowKit
theorem au.cellsA{α:Type}{f:α→Value}{w:World}{b o n cap:Nat}{xs:List α}(h:au w (.slice (some ⟨b,o,none⟩) n cap) 1 (fun x=>[f x]) xs) :
  n=xs.length∧xs.length≤cap∧cap≤9223372036854775807∧∀ i (h:i<xs.length) (w':World),Below w.heap.size w w'→w'.cell? ⟨b,o+i,none⟩=some (f xs[i]):=by
 obtain⟨b',o',h1,h2,h3,h4,h5⟩:=h.bU
 refine⟨h1,h2,h3,fun i hi w' hb=>?_⟩
 obtain⟨rfl,rfl⟩:b=b'∧o=o':=by have:=h4 i hi;simpa using this
 exact h5 i hi w' hb
end
section
open Go.RowKit
theorem aap(b o n cap:Nat)(s:List UInt8)(w:World)(h:au w (.slice (some ⟨b,o,none⟩) n cap) 1 gI s):Calls Tryz.prog 133 #[.slice (some ⟨b,o,none⟩) n cap] w (bF w (.int .i64 (runFrom true s:Nat))):=by
 obtain⟨hn,hcap,hcap2,hc⟩:=h.cellsA
 have HC:=ah hc
 have HN:=ah hn.symm
 have hn63:n≤9223372036854775807:=by omega
 clear h hc hn hcap hcap2
 go_enter Tryz.func133,Tryz.ntmps133
 go_wp2
 go_loopw [3] (fun i wr=>∃ k:Nat,k≤n∧i=.int .i64 k∧runFrom true s=k+runFrom (k==0) (s.drop k)∧Below w.heap.size w wr) (fun i _=>n - (intOf i).toNat)
 case atStart=>exact⟨0,Nat.zero_le _,rfl,by simp,Below.refl _ _⟩
 case round =>
  obtain⟨k,hk,rfl,ha,hB⟩:=hrel
  by_cases hlt:k<n
  ·have hk2:k<s.length:=by rw[HN.out];exact hlt
   rw[drop_at s k hk2,runFrom] at ha
   have hi:=HC.out k hk2
   have hm:=fun w=>Ia s[k].toNat w s[k].toNat_lt
   have hc256:=s[k].toNat_lt
   have y0:=hi wr hB
   have KE:=ah hi
   clear hi
   have hkn:(k:Int)<(n:Int):=by omega
   have asx:(0:Int)≤(k:Int):=by omega
   generalize s[k]=c at *
   by_cases hl:pY c.toNat=true
   ·rw[hl] at hm
    have wE:qM c.toNat (k==0)=true:=by unfold qM;rw[hl];rfl
    rw[wE,if_pos rfl] at ha
    have HM:=ah hm
    have HA:=ah ha
    clear hm ha wE hl
    go_wp2_with (go_at_call 123;go_must (refine(HM.out _).mono ?_;rintro e w1 ⟨rfl,hB1⟩;have y1:=KE.out w1 (hB.trans (hB1.mono hB.size))))
    go_roundw
    case rel=>exact⟨k+1,hlt,by go_num,by rw[HA.out];simp;omega,hB.trans (hB1.mono hB.size)⟩
    case measure=>simp[intOf];omega
   ·have hl:=Bool.eq_false_iff.2 hl
    rw[hl] at hm
    have wE:qM c.toNat (k==0)=(!(k==0)&&sU c.toNat):=by unfold qM;rw[hl];rfl
    rw[wE] at ha
    have HM:=ah hm
    unfold sU at ha
    clear hm wE hl
    by_cases h0:k=0
    ·subst h0
     rw[Nat.add_zero] at y0
     have HA:=ah ha
     clear ha
     go_wp2_with (go_at_call 123;go_must (refine(HM.out _).mono ?_;rintro e w1 ⟨rfl,hB1⟩;have y1:=KE.out w1 (hB.trans (hB1.mono hB.size))))
     go_ret
     exact⟨by rw[HA.out];rfl,hB.trans (hB1.mono hB.size)⟩
    ·have e0:decide (0<(k:Int))=true:=by simp;omega
     have e00:(0<k):=by omega
     have hkb:(k==0)=false:=by simp;omega
     rw[hkb] at ha
     by_cases d1:48≤c.toNat
     ·have e1:decide (48≤(c.toNat:Int))=true:=by simp;omega
      by_cases d2:c.toNat≤57
      ·have e2:decide ((c.toNat:Int)≤57)=true:=by simp;omega
       rw[if_pos (by simp[d1,d2])] at ha
       have HA:=ah ha
       clear ha hkb h0
       go_wp2_with (go_at_call 123;go_must (refine(HM.out _).mono ?_;rintro e w1 ⟨rfl,hB1⟩;have y1:=KE.out w1 (hB.trans (hB1.mono hB.size))))
       go_roundw
       case rel=>exact⟨k+1,hlt,by go_num,by rw[HA.out];simp;omega,hB.trans (hB1.mono hB.size)⟩
       case measure=>simp[intOf];omega
      ·have e2:decide ((c.toNat:Int)≤57)=false:=by simp;omega
       rw[if_neg (by simp[d1,d2])] at ha
       have HA:=ah ha
       clear ha hkb h0
       go_wp2_with (go_at_call 123;go_must (refine(HM.out _).mono ?_;rintro e w1 ⟨rfl,hB1⟩;have y1:=KE.out w1 (hB.trans (hB1.mono hB.size))))
       go_ret
       exact⟨by rw[HA.out];rfl,hB.trans (hB1.mono hB.size)⟩
     ·have e1:decide (48≤(c.toNat:Int))=false:=by simp;omega
      rw[if_neg (by simp[d1])] at ha
      have HA:=ah ha
      clear ha hkb h0
      go_wp2_with (go_at_call 123;go_must (refine(HM.out _).mono ?_;rintro e w1 ⟨rfl,hB1⟩;have y1:=KE.out w1 (hB.trans (hB1.mono hB.size))))
      go_ret
      exact⟨by rw[HA.out];rfl,hB.trans (hB1.mono hB.size)⟩
  ·obtain rfl:k=n:=by omega
   rw[List.drop_eq_nil_of_le (by rw[HN.out];exact Nat.le_refl _),runFrom] at ha
   have HA:=ah ha
   clear ha
   go_wp2
   go_ret
   exact⟨by rw[HA.out];rfl,hB⟩
end
section
open Go.RowKit
def Jl(b o cap p:Nat):Option Addr:=if cap=p then some ⟨b,o,none⟩ else some ⟨b,o+p,none⟩
theorem aaq(b o cap p:Nat):∃ q,Jl b o cap p=some ⟨b,q,none⟩∧(p<cap→q=o+p):=by
 unfold Jl
 by_cases h:cap=p
 ·exact⟨o,by rw[if_pos h],by omega⟩
 ·exact⟨o+p,by rw[if_neg h],fun _=>rfl⟩
theorem au.sub{α:Type}{f:α→Value}{w:World}{b o n cap:Nat}{xs:List α}(h:au w (.slice (some ⟨b,o,none⟩) n cap) 1 (fun x=>[f x]) xs)(p r:Nat)(hr:p+r≤n) :
  au w (.slice (Jl b o cap p) r (cap - p)) 1 (fun x=>[f x]) ((xs.drop p).take r):=by
 obtain⟨hlen,hcap,hcap',hcell⟩:=h.cellsA
 obtain⟨q,hq,ho⟩:=aaq b o cap p
 have hl:((xs.drop p).take r).length=r:=by rw[List.length_take,List.length_drop];omega
 refine⟨Jl b o cap p,b,q,cap - p,by rw[hl],by rw[hl];omega,by simp[maxLen];omega,.inl hq,fun i hi j u hu=>?_⟩
 rw[hl] at hi
 cases j with
 | succ j=>simp at hu
 | zero =>
  simp only[List.getElem?_cons_zero,Option.some.injEq] at hu
  subst hu
  have:=hcell (p+i) (by omega) w (Below.refl _ _)
  rw[Nat.mul_one,Nat.add_zero,ho (by omega),Nat.add_assoc,this]
  congr 2
  simp
end
section
open Go.RowKit
def um(S j:Nat):List UInt8:=(jq j S).flatMap vg
theorem aar(S j:Nat):(um S j).length=8*j:=by
 unfold um
 induction j with
 | zero=>rfl
 | succ j ih=>rw[xE,List.flatMap_append,List.length_append,ih];simp[vg];omega
def oG(w i:Nat):List UInt8:=(List.range i).map (oq w)
theorem Ry(w i:Nat):oG w (i+1)=oG w i++[oq w i]:=by unfold oG;rw[List.range_succ,List.map_append];rfl
theorem Ya(S j:Nat):um S (j+1)=um S j++oG (fA S j) 8:=by
 unfold um;rw[xE,List.flatMap_append];simp[vg,oG]
theorem aas(S k:Nat)(h:k=0∨∃ j,k=j+1∧fA S j≠0):vk S k=k:=by
 rcases h with rfl | ⟨j,rfl,h⟩
 ·rfl
 ·rw[vk,if_neg h]
theorem aat(S j:Nat)(h:fA S j=0):vk S (j+1)=vk S j:=by rw[vk,if_pos h]
theorem aau(z i:Nat):IntKind.u8.wrap ((z:Int) / 2 ^ (8*i))=((oq z i).toNat:Nat):=by
 have e:((z:Int) / 2 ^ (8*i))=((z / 2 ^ (8*i):Nat):Int):=by simp
 rw[e]
 unfold oq
 rw[UInt8.toNat_ofNat',Nat.shiftRight_eq_div_pow,IntKind.wrap_u8]
 omega
theorem Jm:dI Tryz.prog 35 5 (.int .u8 0) 1 1:=⟨Tryz.underlying35,info_parts (by kernel_rfl),rfl,by decide⟩
theorem Rz(p g N S:Nat)(w:World)(hN:N≤1048576)(hB:gG w p g N S) :
  Calls Tryz.prog 241 #[.pointer (some ⟨p,0,none⟩)] w (bF w (sv (I7 (dH N) S))):=by
 have x1:w.cell? ⟨p,1,none⟩=some (.slice (some ⟨g,0,none⟩) (dH N) (dH N)):=hB.box.cell 1
 have hwd:=hB.words
 have hgl:=hwd.lt
 have hpl:=hB.box.lt
 have hm:dH N≤16384:=by unfold dH;omega
 have hkey:I7 (dH N) S=um S (vk S (dH N)):=rfl
 rw[hkey]
 generalize dH N=m at *
 have hw:∀ j,j<m→w.cell? ⟨g,j,none⟩=some (.int .u64 (fA S j:Nat)):=fun j hj=>(hwd.cell _).trans (pq _ _ _ hj)
 have HW:=ah hw
 clear hwd hB hkey hw
 obtain⟨ANS,hans⟩:∃ A,sv (um S (vk S m))=A:=⟨_,rfl⟩
 rw[hans]
 have HA:=ah hans
 clear hans
 go_enter Tryz.func241,Tryz.ntmps241
 go_wp2
 go_loopw [3] (fun v wr=>∃ k:Nat,k≤m∧v=.int .i64 k∧vk S m=vk S k∧wr=w) (fun v _=>(intOf v).toNat)
 case atStart=>exact⟨m,Nat.le_refl _,rfl,rfl,rfl⟩
 case round =>
  obtain⟨k,hk,rfl,htop,hww⟩:=hrel
  subst wr
  have HT:=ah htop
  clear htop
  by_cases hgo:∃ j,k=j+1∧fA S j=0
  ·obtain⟨j,rfl,hz⟩:=hgo
   have c:=HW.out j (by omega)
   rw[hz] at c
   have e:((j+1:Nat):Int) - 1=(j:Int):=by omega
   have hst:=aat S j hz
   have HS:=ah hst
   clear hst hz
   go_wp2
   exact⟨⟨j,by omega,rfl,by rw[HT.out,HS.out],trivial⟩,by simp[intOf]⟩
  ·have hstop:vk S k=k:=aas S k (by
    cases k with
    | zero=>exact .inl rfl
    | succ j=>exact .inr ⟨j,rfl,fun h=>hgo ⟨j,rfl,h⟩⟩)
   rw[HT.out.trans hstop] at HA
   have hcase:(decide ((0:Int)<(k:Int))=false)∨(decide ((0:Int)<(k:Int))=true∧∃ z:Nat,w.cell? ⟨g,k - 1,none⟩=some (.int .u64 z)∧((z:Int)==0)=false):=by
    cases k with
    | zero=>exact .inl rfl
    | succ j =>
     refine .inr ⟨decide_eq_true (by omega),_,HW.out j (by omega),?_⟩
     have:fA S j≠0:=fun h=>hgo ⟨j,rfl,h⟩
     simp;omega
   clear hgo hstop HT
   have hk8:(8:Int)*(k:Int)=((8*k:Nat):Int):=by omega
   have hkt:((k:Int)).toNat=k:=by omega
   have hkm:(k:Int)≤(m:Int):=by omega
   have h0k:(0:Int)≤(k:Int):=by omega
   have HK8:=ah hk8
   clear hk8
   have hk1:0<k→(k:Int) - 1=((k - 1:Nat):Int):=by omega
   have hk2:0<k→((k - 1:Nat):Int)<(m:Int):=by omega
   rcases hcase with hc | ⟨hc,z,hz,hz0⟩
   ·have hkn:(k:Int)≤0:=by simp at hc;omega
    clear hk1 hk2
    go_wp2_with (first | (refine yN rfl 35 _ _ rfl Jm CX (8*k) rfl (congrArg (Value.int .i64) HK8.out) (by omega) (by simp[maxLen];omega) w.heap.size (Nat.le_refl _) ?_;intro w1 ho hg;have hB1:Below w.heap.size w w1:=(Below.refl _ _).grown hg (Nat.le_refl _) (fun k hk=>by cases hk);have y1:w1.cell? ⟨p,1,none⟩=some (.slice (some ⟨g,0,none⟩) m m):=(hB1.cell hpl).trans x1) | simp only[hk1])
    clear y1 hg hc
    go_loopw [4,40] (fun v i wq=>∃ (j:Nat) (a:Option Addr) (q cap:Nat),j≤k∧i=.int .i64 j∧v=.slice a q cap∧Own wq w.heap.size 5 1 gI (.slice a q cap) (um S j)∧Below w.heap.size w wq) (fun _ i _=>k - (intOf i).toNat)
    case atStart=>exact⟨0,_,_,_,Nat.zero_le _,rfl,rfl,ho,hB1⟩
    case round =>
     clear ho hB1
     obtain⟨j,a,q,cap,hj,rfl,rfl,hown,hB⟩:=hrel
     obtain rfl:j=k:=by omega
     have hl:=hown.open.1
     have hconv:=OB (P:=Tryz.prog) (src:=35) (dst:=9) Tryz.underlying35 Tryz.underlying5 Tryz.underlying9 hl (hown.slice CX)
     rw[HA.out] at hconv
     clear hl
     go_wp2
     go_ret
     exact⟨rfl,hB⟩
   ·have hkp:0<k:=by simp at hc;omega
    replace hk1:=hk1 hkp
    replace hk2:=hk2 hkp
    go_wp2_with (first | (refine yN rfl 35 _ _ rfl Jm CX (8*k) rfl (congrArg (Value.int .i64) HK8.out) (by omega) (by simp[maxLen];omega) w.heap.size (Nat.le_refl _) ?_;intro w1 ho hg;have hB1:Below w.heap.size w w1:=(Below.refl _ _).grown hg (Nat.le_refl _) (fun k hk=>by cases hk);have y1:w1.cell? ⟨p,1,none⟩=some (.slice (some ⟨g,0,none⟩) m m):=(hB1.cell hpl).trans x1) | simp only[hk1])
    clear y1 hg hc
    go_loopw [4,40] (fun v i wq=>∃ (j:Nat) (a:Option Addr) (q cap:Nat),j≤k∧i=.int .i64 j∧v=.slice a q cap∧Own wq w.heap.size 5 1 gI (.slice a q cap) (um S j)∧Below w.heap.size w wq) (fun _ i _=>k - (intOf i).toNat)
    case atStart=>exact⟨0,_,_,_,Nat.zero_le _,rfl,rfl,ho,hB1⟩
    case round =>
     clear ho hB1
     obtain⟨j,a,q,cap,hj,rfl,rfl,hown,hB⟩:=hrel
     by_cases hlt:j<k
     ·have c0:wr.cell? ⟨g,j,none⟩=some (.int .u64 (fA S j:Nat)):=(hB.cell hgl).trans (HW.out j (by omega))
      have hsu:=Ya S j
      have hl:=aar S j
      have Ba:=ah hsu;have HL:=ah hl
      clear hsu hl
      have hjk:(j:Int)<(k:Int):=by omega
      generalize fA S j=u at *
      go_wp2
      go_loopw [4,44] (fun v i wt=>∃ (t:Nat) (a:Option Addr) (q cap:Nat),t≤8∧i=.int .i64 t∧v=.slice a q cap∧Own wt w.heap.size 5 1 gI (.slice a q cap) (um S j++oG u t)∧Below w.heap.size w wt) (fun _ i _=>8 - (intOf i).toNat)
      case atStart=>exact⟨0,a,q,cap,by omega,rfl,rfl,by rw[show oG u 0=[] from rfl,List.append_nil];exact hown,hB⟩
      case round =>
       clear hown hB c0
       obtain⟨t,a,q,cap,ht,rfl,rfl,hown,hB⟩:=hrel
       by_cases an6:t<8
       ·have hbv:=aau u t
        have hbs:=Ry u t
        have hbl:(oG u t).length=t:=by simp[oG]
        have h8n:((8:Int)*(t:Int)).toNat=8*t:=by omega
        have HBS:=ah hbs;have HBL:=ah hbl
        clear hbs hbl
        generalize oq u t=x at *
        obtain⟨ys,hys⟩:∃ ys,um S j++oG u t=ys:=⟨_,rfl⟩
        have hyl:ys.length=8*j+t:=by rw[←hys,List.length_append,HL.out,HBL.out]
        have hye:um S j++oG u (t+1)=ys++[x]:=by rw[HBS.out,←List.append_assoc,hys]
        rw[hys] at hown
        clear hys
        have hyb:ys.length≤131080:=by omega
        have hqy:=hown.open.1
        have RD:q≤131080:=by omega
        clear hqy
        have HYL:=ah hyl;have HYE:=ah hye
        clear hyl hye
        go_wp2_with (at_builtin;go_must (refine dK rfl _ _ 35 rfl Jm CX rfl (hown.alloc _) ⟨wr.heap.size,0,none⟩ 1 x rfl (bW wr [.int .u8 (x.toNat:Nat)] _) (by simp only[maxLen];omega) (by omega) (by have:=hB.size;simp only[World.size_alloc];omega) ?_;intro a2 cap2 W' hown' hg))
        have h7:=hB.alloc hB.size (.cells #[.int .u8 (x.toNat:Nat)] 5)
        exact⟨⟨t+1,a2,_,cap2,an6,by push_cast;rfl,rfl,by rw[HYE.out];exact hown',below_grown h7 (hown.alloc _) hg (Nat.le_refl _) h7.size⟩,by simp[intOf];omega⟩
       ·obtain rfl:t=8:=by omega
        go_wp2
        exact⟨⟨j+1,a,q,cap,hlt,by push_cast;rfl,rfl,by rw[Ba.out];exact hown,hB⟩,by simp[intOf];omega⟩
     ·obtain rfl:j=k:=by omega
      have hl:=hown.open.1
      have hconv:=OB (P:=Tryz.prog) (src:=35) (dst:=9) Tryz.underlying35 Tryz.underlying5 Tryz.underlying9 hl (hown.slice CX)
      rw[HA.out] at hconv
      clear hl
      go_wp2
      go_ret
      exact⟨rfl,hB⟩
end
section
open Go.RowKit
theorem rO{a b:Nat}(_:a≤aJ):addN a b≤aJ:=by unfold addN;split <;> omega
theorem CY{a b:Nat}:mulN a b≤aJ:=by
 unfold mulN
 split
 ·omega
 ·split
  ·omega
  ·rename_i h1 h2
   have hb:0<b:=by omega
   have h3:a*b≤aJ / b*b:=Nat.mul_le_mul_right _ (by omega)
   exact Nat.le_trans h3 (Nat.div_mul_le_self _ _)
def zO(l:List Nat):Nat:=l.foldl addN 0
theorem agS(l:List Nat):zO l≤aJ:=by
 have:∀ (l:List Nat) (a:Nat),a≤aJ→l.foldl addN a≤aJ:=by
  intro l
  induction l with
  | nil=>intro a h;exact h
  | cons x l ih=>intro a h;exact ih _ (rO h)
 exact this l 0 (by unfold aJ;omega)
theorem aaw(l:List Nat)(i:Nat)(h:i<l.length):zO (l.take (i+1))=addN (zO (l.take i)) l[i]:=by
 unfold zO;rw[List.take_succ_eq_append_getElem h,List.foldl_append];rfl
abbrev bG(n:Nat):List Value:=[.int .i64 n]
theorem adq(a b bb:Nat)(w:World)(ha:a≤aJ)(hb:b≤aJ)(hB:Box w bb #[.int .i64 (aJ:Nat)] 3) :
  Calls Tryz.prog 191 #[.int .i64 a,.int .i64 b,.pointer (some ⟨bb,0,none⟩)] w (bF w (.int .i64 (addN a b:Nat))):=by
 have c0:w.cell? ⟨bb,0,none⟩=some (.int .i64 1099511627776):=hB.cell 0
 unfold aJ at ha hb
 clear hB
 by_cases h:aJ - a<b
 ·have e:addN a b=aJ:=by unfold addN;rw[if_pos h]
  rw[e]
  unfold aJ at h ⊢
  have h2:(1099511627776:Int) - (a:Int)<(b:Int):=by omega
  clear e h
  go_enter Tryz.func191,Tryz.ntmps191
  go_wp2
  go_ret
  exact⟨rfl,Below.refl _ _⟩
 ·have e:addN a b=a+b:=by unfold addN;rw[if_neg h]
  rw[e]
  unfold aJ at h
  have h2:¬ (1099511627776:Int) - (a:Int)<(b:Int):=by omega
  clear e h
  go_enter Tryz.func191,Tryz.ntmps191
  go_wp2
  go_ret
  exact⟨by simp,Below.refl _ _⟩
theorem fold_add(b o cap n bb:Nat)(l:List Nat)(w:World)(h:au w (.slice (some ⟨b,o,none⟩) n cap) 1 bG l)(hl:∀ x∈l,x≤aJ)(hB:Box w bb #[.int .i64 (aJ:Nat)] 3) :
  Calls Tryz.prog 190 #[.int .i64 0,.slice (some ⟨b,o,none⟩) n cap,.func (.func 191) #[] #[.pointer (some ⟨bb,0,none⟩)]] w (bF w (.int .i64 (zO l:Nat))):=by
 obtain⟨hn,hcap,hc63,hcell⟩:=au.cellsA (f:=fun n:Nat=>Value.int .i64 n) h
 have HC:=ah hcell
 have HN:=ah hn
 have HL:=ah hl
 have hn63:n≤9223372036854775807:=by omega
 clear h hcell hn hcap hc63 hl
 go_enter Tryz.func190,Tryz.ntmps190
 go_wp2
 go_loopw [7,13] (fun v i wr=>∃ k:Nat,k≤n∧i=.int .i64 k∧v=.int .i64 (zO (l.take k):Nat)∧Below w.heap.size w wr) (fun _ i _=>n - (intOf i).toNat)
 case atStart=>exact⟨0,Nat.zero_le _,rfl,rfl,Below.refl _ _⟩
 case round =>
  obtain⟨k,hk,rfl,rfl,hBl⟩:=hrel
  by_cases hlt:k<n
  ·have hk2:k<l.length:=by rw[←HN.out];exact hlt
   have y0:=HC.out k hk2 wr hBl
   have hx:=HL.out _ (List.getElem_mem hk2)
   have hst:=adq (zO (l.take k)) l[k] bb wr (agS _) hx (hB.kept hBl)
   rw[←aaw l k hk2] at hst
   generalize l[k]=x at *
   generalize zO (l.take k)=s at *
   have h0x:(0:Int)≤(x:Int):=by omega
   have hmx:max (x:Int) 0=(x:Int):=by omega
   have HS:=ah hst
   clear hst hx
   have hki:(k:Int)<(n:Int):=by omega
   have hk0:(0:Int)≤(k:Int):=by omega
   go_wp2_with (go_at_call 191;go_must (refine HS.out.mono ?_;rintro e w2 ⟨rfl,hb2⟩))
   exact⟨⟨k+1,hlt,by push_cast;rfl,rfl,hBl.trans (hb2.mono hBl.size)⟩,by simp[intOf];omega⟩
  ·obtain rfl:k=n:=by omega
   rw[List.take_of_length_le (by rw[HN.out];exact Nat.le_refl _)]
   clear hB
   go_wp2
   go_ret
   exact⟨rfl,hBl⟩
theorem wQ(b o cap n:Nat)(l:List Nat)(w:World)(h:au w (.slice (some ⟨b,o,none⟩) n cap) 1 bG l)(hl:∀ x∈l,x≤aJ) :
  Calls Tryz.prog 141 #[.int .i64 (aJ:Nat),.slice (some ⟨b,o,none⟩) n cap] w (bF w (.int .i64 (zO l:Nat))):=by
 have hmf:∀ (fn:Fn) (first cap:Array Value) (w:World),(Instr.makeFunc fn first cap).run Tryz.prog w=.ok (.func fn first cap) w:=fun _ _ _ _=>rfl
 have hB0:=aj w (.cells #[.int .i64 (aJ:Nat)] 3)
 have hf:=fold_add b o cap n w.heap.size l _ (h.kept hB0) hl (Box.new w _ _)
 have HF:=ah hf
 unfold aJ at HF hB0 ⊢
 clear hf h hl
 go_enter Tryz.func141,Tryz.ntmps141
 go_wp2_with (go_at_call 190;go_must (refine HF.out.mono ?_;rintro e w2 ⟨rfl,hb2⟩))
 go_ret
 exact⟨rfl,hB0.trans (hb2.mono hB0.size)⟩
end
section
open Go.RowKit
def stepM(s:Nat×Bool)(b:Nat):Nat×Bool:=if s.1=0∨b=0 then (0,s.2) else if s.2=true∨aJ / b<s.1 then (s.1,true) else (s.1*b,s.2)
theorem adr{s:Nat×Bool}{b:Nat}(h:s.1≤aJ):(stepM s b).1≤aJ:=by
 unfold stepM
 split
 ·simp[aJ]
 ·split
  ·exact h
  ·rename_i h1 h2
   have hb:0<b:=by omega
   have h3:s.1*b≤aJ / b*b:=Nat.mul_le_mul_right _ (by have:¬ aJ / b<s.1:=fun e=>h2 (.inr e);omega)
   exact Nat.le_trans h3 (Nat.div_mul_le_self _ _)
def foldM(l:List Nat):Nat×Bool:=l.foldl stepM (1,false)
theorem RF(l:List Nat):(foldM l).1≤aJ:=by
 have:∀ (l:List Nat) (s:Nat×Bool),s.1≤aJ→(l.foldl stepM s).1≤aJ:=by
  intro l
  induction l with
  | nil=>intro a h;exact h
  | cons x l ih=>intro a h;exact ih _ (adr h)
 exact this l (1,false) (by simp[aJ])
theorem Yb(l:List Nat)(i:Nat)(h:i<l.length):foldM (l.take (i+1))=stepM (foldM (l.take i)) l[i]:=by
 unfold foldM;rw[List.take_succ_eq_append_getElem h,List.foldl_append];rfl
def mulR(s:Nat×Bool):Nat:=if s.1≠0∧s.2=true then aJ else s.1
theorem mul_two(a b:Nat):mulR (foldM [a,b])=mulN a b:=by
 show mulR (stepM (stepM (1,false) a) b)=mulN a b
 by_cases ha:a=0
 ·subst ha;simp[stepM,mulR,mulN]
 by_cases hb:b=0
 ·subst hb
  have:(stepM (stepM (1,false) a) 0).1=0:=by unfold stepM;rw[if_pos (.inr rfl)]
  simp[this,mulR,mulN]
 have hm:mulN a b=if aJ / b<a then aJ else a*b:=by unfold mulN;rw[if_neg (by omega:¬ (a=0∨b=0))]
 rw[hm]
 by_cases h1:aJ / a<1
 ·have e1:stepM (1,false) a=(1,true):=by unfold stepM;rw[if_neg (by simp;omega),if_pos (.inr h1)]
  have e2:stepM (1,true) b=(1,true):=by unfold stepM;rw[if_neg (by simp;omega),if_pos (.inl rfl)]
  rw[e1,e2]
  have h2:aJ<a:=by
   rcases Nat.lt_or_ge aJ a with h | h
   ·exact h
   ·have:=Nat.div_pos h (by omega:0<a);omega
  have h3:aJ / b<a:=Nat.lt_of_le_of_lt (Nat.div_le_self _ _) h2
  rw[if_pos h3];simp[mulR]
 ·have e1:stepM (1,false) a=(a,false):=by unfold stepM;rw[if_neg (by simp;omega),if_neg (by rintro(h | h);cases h;exact h1 h)];simp
  rw[e1]
  by_cases h2:aJ / b<a
  ·have e2:stepM (a,false) b=(a,true):=by unfold stepM;rw[if_neg (by simp;omega),if_pos (.inr h2)]
   rw[e2,if_pos h2];simp[ha,mulR]
  ·have e2:stepM (a,false) b=(a*b,false):=by unfold stepM;rw[if_neg (by simp;omega),if_neg (by rintro(h | h);cases h;exact h2 h)]
   rw[e2,if_neg h2];simp[mulR]
theorem ads(v b b1 b2:Nat)(y:Bool)(w:World)(_:v≤aJ)(hb:b≤9223372036854775807)(hY:Box w b1 #[.bool y] 4)(hB:Box w b2 #[.int .i64 (aJ:Nat)] 3) :
  Calls Tryz.prog 258 #[.int .i64 v,.int .i64 b,.pointer (some ⟨b1,0,none⟩),.pointer (some ⟨b2,0,none⟩)] w (fun e w'=>e=.returned (.int .i64 ((stepM (v,y) b).1:Nat))∧(w'=w∧(stepM (v,y) b).2=y∨w'=w.setCell ⟨b1,0,none⟩ (.bool true)∧(stepM (v,y) b).2=true)):=by
 have c0:w.cell? ⟨b2,0,none⟩=some (.int .i64 1099511627776):=hB.cell 0
 have c1:w.cell? ⟨b1,0,none⟩=some (.bool y):=hY.cell 0
 have f1:=hY.free 0
 clear hB hY
 by_cases h1:v=0
 ·have e:stepM (v,y) b=(0,y):=by unfold stepM;rw[if_pos (.inl h1)]
  rw[e]
  have e1:((v:Int)==0)=true:=by rw[h1];rfl
  clear e h1
  go_enter Tryz.func258,Tryz.ntmps258
  go_wp2
  go_ret
  exact⟨rfl,.inl ⟨rfl,by trivial⟩⟩
 have e1:((v:Int)==0)=false:=by rw[beq_eq_false_iff_ne];omega
 by_cases h2:b=0
 ·have e:stepM (v,y) b=(0,y):=by unfold stepM;rw[if_pos (.inr h2)]
  rw[e]
  have e2:((b:Int)==0)=true:=by rw[h2];rfl
  clear e h2 h1
  go_enter Tryz.func258,Tryz.ntmps258
  go_wp2
  go_ret
  exact⟨rfl,.inl ⟨rfl,by trivial⟩⟩
 have e2:((b:Int)==0)=false:=by rw[beq_eq_false_iff_ne];omega
 have hb0:¬ (b:Int)=0:=by omega
 cases y with
 | true =>
  have e:stepM (v,true) b=(v,true):=by unfold stepM;rw[if_neg (by simp;omega),if_pos (.inl rfl)]
  rw[e]
  clear e h2 h1
  go_enter Tryz.func258,Tryz.ntmps258
  go_wp2
  go_ret
  exact⟨rfl,.inr ⟨rfl,by trivial⟩⟩
 | false =>
  by_cases h3:aJ / b<v
  ·have e:stepM (v,false) b=(v,true):=by unfold stepM;rw[if_neg (by simp;omega),if_pos (.inr h3)]
   rw[e]
   unfold aJ at h3
   have h4:(1099511627776:Int) / (b:Int)<(v:Int):=by
    have:((1099511627776 / b:Nat):Int)=(1099511627776:Int) / (b:Int):=by simp
    omega
   clear e h2 h1 h3
   go_enter Tryz.func258,Tryz.ntmps258
   go_wp2
   go_ret
   exact⟨rfl,.inr ⟨rfl,by trivial⟩⟩
  ·have e:stepM (v,false) b=(v*b,false):=by unfold stepM;rw[if_neg (by simp;omega),if_neg (by rintro(h | h);cases h;exact h3 h)]
   rw[e]
   unfold aJ at h3
   have h4:¬ (1099511627776:Int) / (b:Int)<(v:Int):=by
    have:((1099511627776 / b:Nat):Int)=(1099511627776:Int) / (b:Int):=by simp
    omega
   have h5:v*b≤1099511627776:=by
    have hb3:v*b≤1099511627776 / b*b:=Nat.mul_le_mul_right _ (by omega)
    exact Nat.le_trans hb3 (Nat.div_mul_le_self _ _)
   clear e h2 h1 h3
   go_enter Tryz.func258,Tryz.ntmps258
   go_wp2
   go_ret
   refine⟨by simp,?_⟩
   first | rfl | exact .inl ⟨rfl,by trivial⟩
theorem adt(b o cap n b1 b2:Nat)(l:List Nat)(w:World)(h:au w (.slice (some ⟨b,o,none⟩) n cap) 1 bG l)(hl:∀ x∈l,x≤9223372036854775807)(hY:Box w b1 #[.bool false] 4)(hB:Box w b2 #[.int .i64 (aJ:Nat)] 3)(hne:b2≠b1)(hbb:b≠b1) :
  Calls Tryz.prog 190 #[.int .i64 1,.slice (some ⟨b,o,none⟩) n cap,.func (.func 258) #[] #[.pointer (some ⟨b1,0,none⟩),.pointer (some ⟨b2,0,none⟩)]] w (fun e w'=>e=.returned (.int .i64 ((foldM l).1:Nat))∧Box w' b1 #[.bool (foldM l).2] 4∧Box w' b2 #[.int .i64 (aJ:Nat)] 3∧∀ B,B≤b1→B≤w.heap.size→Below B w w'):=by
 obtain⟨hn,hcap,hc63,hcell⟩:=au.cellsA (f:=fun n:Nat=>Value.int .i64 n) h
 have hcell2:∀ i (h:i<l.length) (w':World),w'.heap[b]?=w.heap[b]?→w'.cell? ⟨b,o+i,none⟩=some (.int .i64 (l[i]:Nat)):=fun i hi w' hw=>(World.cell?_of_block (a:=⟨b,o+i,none⟩) hw).trans (hcell i hi w (Below.refl _ _))
 have HC:=ah hcell2
 have HN:=ah hn
 have HL:=ah hl
 have hn63:n≤9223372036854775807:=by omega
 clear h hcell hcell2 hn hcap hc63 hl
 go_enter Tryz.func190,Tryz.ntmps190
 go_wp2
 go_loopw [7,13] (fun v i wr=>∃ k:Nat,k≤n∧i=.int .i64 k∧v=.int .i64 ((foldM (l.take k)).1:Nat)∧Box wr b1 #[.bool (foldM (l.take k)).2] 4∧Box wr b2 #[.int .i64 (aJ:Nat)] 3∧wr.heap[b]?=w.heap[b]?∧∀ B,B≤b1→B≤w.heap.size→Below B w wr) (fun _ i _=>n - (intOf i).toNat)
 case atStart=>exact⟨0,Nat.zero_le _,rfl,rfl,hY,hB,rfl,fun B _ _=>Below.refl _ _⟩
 case round =>
  clear hY hB
  obtain⟨k,hk,rfl,rfl,hY,hB,hbk,hBl⟩:=hrel
  by_cases hlt:k<n
  ·have hk2:k<l.length:=by rw[←HN.out];exact hlt
   have y0:=HC.out k hk2 wr hbk
   have hx:=HL.out _ (List.getElem_mem hk2)
   have hst:=ads (foldM (l.take k)).1 l[k] b1 b2 (foldM (l.take k)).2 wr (RF _) hx hY hB
   have hft:=Yb l k hk2
   have HFT:=ah hft
   clear hft
   generalize l[k]=x at *
   generalize foldM (l.take k)=s at *
   obtain⟨s1,s2⟩:=s
   have h0x:(0:Int)≤(x:Int):=by omega
   have hmx:max (x:Int) 0=(x:Int):=by omega
   have HS:=ah hst
   clear hst hx
   have hki:(k:Int)<(n:Int):=by omega
   have hk0:(0:Int)≤(k:Int):=by omega
   go_wp2_with (go_at_call 258;go_must (refine HS.out.mono ?_;rintro e w2 ⟨rfl,hw2⟩))
   refine⟨⟨k+1,hlt,by push_cast;rfl,by rw[HFT.out],?_,?_,?_,?_⟩,by simp[intOf];omega⟩
   ·rw[HFT.out]
    rcases hw2 with⟨rfl,h2⟩ | ⟨rfl,h2⟩
    ·rw[h2];exact hY
    ·rw[h2];exact hY.set 0 _
   ·rcases hw2 with⟨rfl,_⟩ | ⟨rfl,_⟩
    ·exact hB
    ·exact hB.other _ _ hne
   ·rcases hw2 with⟨rfl,_⟩ | ⟨rfl,_⟩
    ·exact hbk
    ·exact(heap_setCell_other wr ⟨b1,0,none⟩ b _ hbb).trans hbk
   ·intro B h1 h2
    rcases hw2 with⟨rfl,_⟩ | ⟨rfl,_⟩
    ·exact hBl B h1 h2
    ·exact(hBl B h1 h2).setCell (p:=⟨b1,0,none⟩) h1 _
  ·obtain rfl:k=n:=by omega
   rw[List.take_of_length_le (by rw[HN.out];exact Nat.le_refl _)] at hY ⊢
   go_wp2
   go_ret
   exact⟨rfl,hY,hB,hBl⟩
theorem VX(b o cap n:Nat)(l:List Nat)(w:World)(h:au w (.slice (some ⟨b,o,none⟩) n cap) 1 bG l)(hl:∀ x∈l,x≤9223372036854775807)(hb:b<w.heap.size) :
  Calls Tryz.prog 236 #[.int .i64 (aJ:Nat),.slice (some ⟨b,o,none⟩) n cap] w (bF w (.int .i64 (mulR (foldM l):Nat))):=by
 have hmf:∀ (fn:Fn) (first cap:Array Value) (w:World),(Instr.makeFunc fn first cap).run Tryz.prog w=.ok (.func fn first cap) w:=fun _ _ _ _=>rfl
 have hB0:Below w.heap.size w ((w.alloc (.cells #[.int .i64 (aJ:Nat)] 3)).alloc (.cells #[.bool false] 4)):=((Below.refl _ w).alloc (Nat.le_refl _) _).alloc (by simp) _
 have hf:=adt b o cap n (w.heap.size+1) w.heap.size l _ (h.kept hB0) hl (Box.new' (by simp) _ _) ((Box.new w _ _).alloc _) (by omega) (by omega)
 have HF:=ah hf
 have hle:=RF l
 unfold aJ at HF hB0 hle
 have hv:mulR (foldM l)=if (foldM l).1≠0∧(foldM l).2=true then 1099511627776 else (foldM l).1:=rfl
 rw[hv]
 unfold aJ
 generalize foldM l=s at *
 obtain⟨s1,s2⟩:=s
 dsimp only at hle
 clear hf h hl hv
 by_cases h1:s1=0
 ·subst h1
  rw[if_neg (by simp)]
  go_enter Tryz.func236,Tryz.ntmps236
  go_wp2_with (go_at_call 190;go_must (refine HF.out.mono ?_;rintro e w2 ⟨rfl,hY2,hT2,hb2⟩;have c0:w2.cell? ⟨w.heap.size,0,none⟩=some (.int .i64 1099511627776):=hT2.cell 0;have c1:w2.cell? ⟨w.heap.size+1,0,none⟩=some (.bool s2):=hY2.cell 0))
  go_ret
  exact⟨rfl,hB0.trans (hb2 _ (by omega) hB0.size)⟩
 ·have e1:((s1:Int) != 0)=true:=by rw[bne_iff_ne];omega
  have hmin:min (s1:Int) 1099511627776=(s1:Int):=by omega
  have hle2:(s1:Int)≤1099511627776:=by omega
  cases s2 with
  | true =>
   rw[if_pos ⟨h1,rfl⟩]
   clear h1
   go_enter Tryz.func236,Tryz.ntmps236
   go_wp2_with (go_at_call 190;go_must (refine HF.out.mono ?_;rintro e w2 ⟨rfl,hY2,hT2,hb2⟩;have c0:w2.cell? ⟨w.heap.size,0,none⟩=some (.int .i64 1099511627776):=hT2.cell 0;have c1:w2.cell? ⟨w.heap.size+1,0,none⟩=some (.bool true):=hY2.cell 0))
   go_ret
   exact⟨rfl,hB0.trans (hb2 _ (by omega) hB0.size)⟩
  | false =>
   rw[if_neg (by simp)]
   clear h1
   go_enter Tryz.func236,Tryz.ntmps236
   go_wp2_with (go_at_call 190;go_must (refine HF.out.mono ?_;rintro e w2 ⟨rfl,hY2,hT2,hb2⟩;have c0:w2.cell? ⟨w.heap.size,0,none⟩=some (.int .i64 1099511627776):=hT2.cell 0;have c1:w2.cell? ⟨w.heap.size+1,0,none⟩=some (.bool false):=hY2.cell 0))
   go_ret
   exact⟨rfl,hB0.trans (hb2 _ (by omega) hB0.size)⟩
end
end Go.Proofs.YtengfapcaaacaaaGreatDoor
