/- The texts of E22, in few letters (mini.py). -/
import Derived.Test.YtengfapcaaacaaaGreatDoorF19
import Derived.Test.YtengfapcaaacaaaGreatDoorF16
import Derived.Test.YtengfapcaaacaaaGreatDoorF17
set_option linter.unusedVariables false
set_option linter.unusedSimpArgs false
set_option maxHeartbeats 2000000
namespace Go.Proofs.YtengfapcaaacaaaGreatDoor
section
open Go.RowKit
def afJ(b:Bool):List Value:=[.bool b]
def aiy(n:Nat)(ws:List Nat):List Bool:=(List.range n).map fun s=>ws.contains s
structure wY(base n0 n tb:Nat)(W0:World)(X:Nat→Prop)(tv:Value)(ss ws:List Nat)(wr:World):Prop where
 there:Own wr base 4 1 afJ (.slice (some ⟨tb,0,none⟩) n n) (aiy n ss)
 waits:Own wr base 3 1 bG tv ws
 own:∀ b,X b↔b=tb∨tv.ownBlock=some b
 keep:∀ b,b<n0→wr.heap[b]?=W0.heap[b]?
 size:base≤wr.heap.size∧n0≤base
theorem wY.same{base n0 n tb:Nat}{W0:World}{X:Nat→Prop}{tv:Value}{ss ws:List Nat}{wr w2:World}(h:wY base n0 n tb W0 X tv ss ws wr)(hs:wr.heap.size≤w2.heap.size)(hk:∀ b,X b∨b<n0→w2.heap[b]?=wr.heap[b]?):wY base n0 n tb W0 X tv ss ws w2 :=
 ⟨h.there.same fun g hg=>hk g (.inl ((h.own g).2 (.inl (by cases hg;rfl)))),h.waits.same fun g hg=>hk g (.inl ((h.own g).2 (.inr hg))),h.own,fun b hb=>(hk b (.inr hb)).trans (h.keep b hb),⟨Nat.le_trans h.size.1 hs,h.size.2⟩⟩
theorem wY.blk{base n0 n tb:Nat}{W0:World}{X:Nat→Prop}{tv:Value}{ss ws:List Nat}{wr:World}(h:wY base n0 n tb W0 X tv ss ws wr){b:Nat}(hx:X b):base≤b∧b<wr.heap.size:=by
 rcases (h.own b).1 hx with rfl | e
 ·exact h.there.blk rfl
 ·exact h.waits.blk e
theorem wY.kept{base n0 n tb:Nat}{W0:World}{X:Nat→Prop}{tv:Value}{ss ws:List Nat}{wr w2:World}(h:wY base n0 n tb W0 X tv ss ws wr)(hb:Below wr.heap.size wr w2):wY base n0 n tb W0 X tv ss ws w2 :=
 h.same hb.size fun b hx=>hb.block b (by
  rcases hx with hx | hx
  ·exact(h.blk hx).2
  ·have:=h.size;omega)
theorem wY.aoq{base n0 n tb:Nat}{W0:World}{X:Nat→Prop}{tv:Value}{ss ws:List Nat}{wr:World}(h:wY base n0 n tb W0 X tv ss ws wr):tv.ownBlock≠some tb:=fun e=>by
 obtain⟨_,c1,b1⟩:=h.waits.block _ e
 obtain⟨_,c2,b2⟩:=h.there.block tb rfl
 exact absurd (b1.iD b2) (by decide)
theorem wY.wait{base n0 n tb:Nat}{W0:World}{X:Nat→Prop}{tv tv':Value}{ss ws ws':List Nat}{wr w1 w2:World}(h:wY base n0 n tb W0 X tv ss ws wr)(hb:Below wr.heap.size wr w1)(ho:Own w2 base 3 1 bG tv' ws')(hg:w1.grownBy w2 tv.ownBlock)(hf:tv'.ownBlock=tv.ownBlock∨tv'.ownBlock=some w1.heap.size) :
  wY base n0 n tb W0 (fun b=>b=tb∨tv'.ownBlock=some b) tv' ss ws' w2∧alg X (fun b=>b=tb∨tv'.ownBlock=some b) wr w2 tv.ownBlock:=by
 have h1:=h.kept hb
 have hne:=h.aoq
 have hsz:=h.size
 have hs:=hb.size
 have hs2:=hg.size
 refine⟨⟨h1.there.same fun g hgg=>hg.block g (h1.there.blk hgg).2 fun e=>?_,ho,fun b=>Iff.rfl,fun b hb'=>(hg.block b (by omega) fun e=>?_).trans (h1.keep b hb'),⟨by omega,hsz.2⟩⟩,⟨⟨hg.os.trans hb.os,hg.tape.trans hb.tape,hg.output.trans hb.output,by omega,fun k hk hn=>(hg.block k (by omega) hn).trans (hb.block k hk)⟩,fun r e=>(h.own r).2 (.inr e),fun b hb'=>?_⟩⟩
 ·cases hgg;exact hne e.symm
 ·have:=(h.waits.blk e.symm).1;omega
 ·rcases hb' with rfl | e
  ·exact .inl ((h.own _).2 (.inl rfl))
  ·rcases hf with e2 | e2
   ·exact .inl ((h.own b).2 (.inr (e2▸e)))
   ·rw[e2] at e;cases e
    have:=(ho.blk e2).2
    exact .inr ⟨hs,this⟩
theorem Own.aiz{w:World}{base E n cap:Nat}{a:Option Addr}{xs:List Nat}(h:Own w base E 1 bG (.slice a n cap) xs) :
  n=xs.length∧xs.length≤cap∧cap≤9223372036854775807∧∃ g,(∀ i,i<xs.length→a=some ⟨g,0,none⟩∧g<w.heap.size)∧∀ (u:World) (i:Nat) (h:i<xs.length),u.heap[g]?=w.heap[g]?→u.cell? ⟨g,i,none⟩=some (.int .i64 (xs[i]:Nat)):=by
 obtain⟨h1,h2,h3,g,cur,ha,hx⟩:=h.open
 refine⟨h1,h2,h3,g,fun i hi=>⟨ha i hi,(hx (by omega)).2.1.lt⟩,fun u i hi hu=>?_⟩
 obtain⟨_,hb,_,hc⟩:=hx (by omega)
 have h4:=hc i hi 0 (by decide)
 rw[show i*1+0=i by omega] at h4
 rw[World.cell?_of_block hu,hb.cell,h4]
 simp[bG]
end
section
open Go.RowKit Go.Shelf
attribute [local go_sem] Oper.semAt_some
def jA(l:List UInt8):List UInt8:=l.takeWhile (· != 10)
theorem ad1(l:List UInt8):(jA l).length≤l.length:=(List.takeWhile_sublist _).length_le
theorem YH(l:List UInt8):l.take (jA l).length=jA l:=by
 induction l with
 | nil=>rfl
 | cons x l ih =>
  unfold jA at ih ⊢
  rw[List.takeWhile_cons]
  split
  ·rw[List.length_cons,List.take_succ_cons,ih]
  ·rfl
theorem Lp:∀ l:List UInt8,Lib.index l [10]=if (jA l).length=l.length then -1 else ((jA l).length:Int)
 | []=>by simp[Lib.index,jA]
 | x::l=>by
  have ih:=Lp l
  by_cases h:x=10
  ·subst h;simp[Lib.index,jA]
  ·have hx:Lib.index (x::l) [10]=if Lib.index l [10]=-1 then -1 else Lib.index l [10]+1:=by
    rw[Lib.index]
    simp[Ne.symm h]
   have hl:jA (x::l)=x::jA l:=by unfold jA;rw[List.takeWhile_cons,if_pos (by simpa using h)]
   rw[hx,ih,hl]
   rw[List.length_cons,List.length_cons]
   by_cases h2:(jA l).length=l.length
   ·rw[if_pos h2,if_pos rfl,if_pos (by omega)]
   ·rw[if_neg h2,if_neg (by omega),if_neg (by omega)];rfl
def Ae:Nat→Nat→List UInt8→List (Nat×List UInt8)
 | 0,_,_=>[]
 | f+1,at',l=>if l.length=0 then [] else (at',jA l)::Ae f (at'+((jA l).length+1)) (l.drop ((jA l).length+1))
def tH(l:List UInt8):List (Nat×List UInt8):=Ae l.length 0 l
theorem YI(f at':Nat):Ae f at' []=[]:=by cases f <;> rfl
theorem Vp(f at':Nat)(l:List UInt8)(h0:l.length≠0):Ae (f+1) at' l=(at',jA l)::Ae f (at'+((jA l).length+1)) (l.drop ((jA l).length+1)):=by rw[Ae,if_neg h0]
theorem below_drewN(w:World)(k:Nat){B:Nat}:Below B w (w.drewN k):=⟨rfl,rfl,rfl,Nat.le_refl _,fun _ _=>rfl⟩
theorem ad2(p:Addr)(n c:Nat)(l:List UInt8)(hn:n=l.length):∃ v2 v3,Lib.cutV (some p) n c 1 (Lib.index l [10])=.tuple #[.slice (some p) (jA l).length c,v2,v3]:=by
 rw[Lp]
 unfold Lib.cutV
 by_cases h:(jA l).length=l.length
 ·rw[if_pos h,if_neg (by omega),hn,h];exact⟨_,_,rfl⟩
 ·rw[if_neg h,if_pos (by omega),Int.toNat_natCast];exact⟨_,_,rfl⟩
def Gg(l:List UInt8)(x:Nat×List UInt8):Prop:=x.1+x.2.length≤l.length∧x.2=(l.drop x.1).take x.2.length
abbrev afK(g:Nat×Nat)(c:Nat)(x:Nat×List UInt8):Array Value:=#[.int .i64 x.1,.slice (some ⟨g.1,g.2+x.1,none⟩) x.2.length (c - x.1)]
def ad3(X:Nat→Prop)(J:List (Nat×List UInt8)→World→Prop)(l:List UInt8)(W wr:World)(i:Value):Prop :=
 ∃ (at' f:Nat) (pre:List (Nat×List UInt8)),i=.int .i64 at'∧at'≤l.length+1∧pre++Ae f at' (l.drop at')=tH l∧(l.drop at').length≤f∧J pre wr∧aX X W wr
set_option maxRecDepth 100000 in
theorem ad4(n lp bB:Nat)(g:Nat×Nat)(m c:Nat)(l:List UInt8)(hm:m≤65536)(X:Nat→Prop)(hX:¬ X bB∧¬ X g.1∧¬ X 0)(J Jx:List (Nat×List UInt8)→World→Prop)
  (hJ:∀ pre A B,J pre A→A.grownBy B none→J pre B)
  (hY:∀ pre x W,J pre W→pre.length<(tH l).length→Gg l x→YieldAt Fence.wide (n - 1) Tryz.prog lp (afK g c x) W fun e W'=>(e=.returned (.bool true)∧J (pre++[x]) W'∧aX X W W')∨(e=.returned (.bool false)∧Jx (pre++[x]) W'))
  (W:World) (hM:∃ k,W.cell? ⟨0,0,none⟩=some (.int .i64 k)) (hB:Box W bB #[.slice (some ⟨g.1,g.2,none⟩) m c] 35) (hS:au W (.slice (some ⟨g.1,g.2,none⟩) m c) 1 gI l) (h0:J [] W) :
  CallsIn Fence.wide n Tryz.prog 97 #[.func (.yield lp) #[] #[],.pointer (some ⟨bB,0,none⟩)] W fun e W'=>(∃ v,e=.returned v)∧((∃ ys,ys=tH l∧J ys W')∨(∃ pre,pre <+: tH l∧Jx pre W')):=by
 refine callsIn_of_wp Tryz.func97 rfl trivial ?_ rfl
 simp only[Tryz.ntmps97,List.size_toArray,List.length_cons,List.length_nil,Nat.reduceAdd,Nat.reduceSub,Array.replicate_succ,Array.replicate_zero,List.push_toArray,List.append_toArray,List.nil_append,List.cons_append]
 gi_wp2
 gi_loopw [3] (fun i wr=>ad3 X J l W wr i) (fun i _=>m+1 - (intOf i).toNat)
 case atStart=>exact⟨0,l.length,[],rfl,by omega,rfl,by simp,h0,aX.refl _ _⟩
 case round =>
  obtain⟨at',f,pre,rfl,hle,he,hf,wC,hkr⟩:=hrel
  have hBr:=hkr.box hX.1 hB
  have k0:=hBr.cell 0
  obtain⟨hlm,hmc,hc63,hcell⟩:=hS.cellsA
  by_cases hlt:at'<m
  ·have hca:¬ c=at':=by omega
   have aor:decide ((at':Int)<(m:Int))=true:=decide_eq_true (by omega)
   have hlen:(l.drop at').length=m - at':=by rw[List.length_drop];omega
   obtain⟨f,rfl⟩:∃ f',f=f'+1:=⟨f - 1,by omega⟩
   rw[Vp f at' _ (by omega),List.drop_drop] at he
   have aiA:=ad1 (l.drop at')
   have hBW:Below wr.heap.size wr (wr.alloc (.cells #[.int .u8 10] 5)):=aj _ _
   obtain⟨k9,hk9⟩:=hM
   have hM9:(wr.alloc (.cells #[.int .u8 10] 5)).cell? ⟨0,0,none⟩=some (.int .i64 k9):=((hkr.trans (aX.below hBW)).cell hX.2.2 hk9)
   have hcl:∀ i,i<m - at'→(wr.alloc (.cells #[.int .u8 10] 5)).cell? ⟨g.1,g.2+at'+i,none⟩=some (.int .u8 (((l.drop at').map fun u=>((u.toNat:Nat):Int)).getD i 0)):=fun i hi=>by
    have h1:=hcell (at'+i) (by omega) W (Below.refl _ _)
    have h2:=(hkr.trans (aX.below hBW)).cell hX.2.1 h1
    rw[Nat.add_assoc,h2]
    simp[List.getD,List.getElem?_map,List.getElem?_drop,List.getElem?_eq_getElem (show at'+i<l.length by omega)]
   have hcut:=Tryz.bytes_Cut_all (some ⟨g.1,g.2+at',none⟩) (some ⟨wr.heap.size,0,none⟩) (m - at') (c - at') 1 1 ((l.drop at').map fun u=>((u.toNat:Nat):Int)) [10] k9 (wr.alloc (.cells #[.int .u8 10] 5)) (by rw[List.length_map,hlen]) rfl (fun x hx=>by
    rw[List.mem_map] at hx
    obtain⟨u,_,rfl⟩:=hx
    have:=u.toNat_lt
    omega) (fun y hy=>by simp at hy;subst hy;decide) (fun _=>⟨_,_,rfl,hcl⟩) (fun _=>⟨_,_,rfl,fun i hi=>by
     obtain rfl:i=0:=by omega
     exact(Box.new wr #[.int .u8 10] 5).cell 0⟩) (by simp) (by omega) (by omega) (by omega) hM9
   have hbo:Lib.bytesOf ((l.drop at').map fun u=>((u.toNat:Nat):Int))=l.drop at':=by
    unfold Lib.bytesOf
    simp[List.map_map,Function.comp_def]
   rw[hbo,show Lib.bytesOf [10]=[10] from rfl] at hcut
   obtain⟨v2,v3,hv⟩:=ad2 ⟨g.1,g.2+at',none⟩ (m - at') (c - at') (l.drop at') hlen.symm
   rw[hv] at hcut
   have Fp:=fun nd=>hY pre (at',jA (l.drop at')) _ (hJ pre _ ((wr.alloc (.cells #[.int .u8 10] 5)).drewN nd) wC ⟨rfl,rfl,rfl,hBW.size,fun k hk _=>hBW.block k hk⟩) (by rw[←he];simp) ⟨by show at'+(jA _).length≤_;omega,(YH _).symm⟩
   have hwrap:at'+((jA (l.drop at')).length+1)≤70000:=by omega
   generalize hgl:jA (l.drop at')=ln at *
   have HC:=ah hcut
   have HY:=ah Fp
   have HE:=ah he
   have HW:=ah hwrap
   have HL:=ah aiA
   have HF:=ah hf
   have HLM:=ah hlm
   have oU:=ah hlen
   have hln:ln.length≤65536:=by omega
   have hkd:=fun nd=>hkr.trans (aX.below (hBW.trans (below_drewN _ nd)))
   have HK:=ah hkd
   have asG:(at':Int)≤(m:Int):=by omega
   have asl:(m:Int)≤(c:Int):=by omega
   have hdd:∀ k:Nat,(Fence.wide.depth.isSome=true→1≤k):=fun k h=>by cases h
   clear hcut Fp he hcl hM9 hbo hv hY hf aiA hlen hlm hcell hS hwrap hkd hk9 hgl
   gi_wp2_with (first | (refine⟨trivial,hdd _,?_⟩;gi_at_call 98;go_must (refine(callsIn_wide.2 HC.out).mono ?_;rintro e w1 ⟨rfl,nd,rfl⟩;obtain⟨fn,tmps,assign,body,hy,hR⟩:=HY.out nd)) | (refine⟨hdd _,?_⟩;refine hR.mono ?_;clear hR;rintro e W2 (⟨rfl,hJ2,hk2⟩ | ⟨rfl,hx2⟩)))
   ·have h1:=HL.out
    have h2:=oU.out
    have h3:=HLM.out
    have h4:=HF.out
    refine⟨⟨at'+(ln.length+1),f,pre++[(at',ln)],by push_cast;rfl,by omega,by rw[List.append_assoc];exact HE.out,by rw[List.length_drop] at h4 ⊢;omega,hJ2,(HK.out nd).trans hk2⟩,by simp[intOf];omega⟩
   ·refine bodyPost_ret (results_none rfl _ _ _) rfl ?_
    refine⟨⟨_,rfl⟩,.inr ⟨_,?_,hx2⟩⟩
    rw[←HE.out]
    exact⟨_,by rw[List.append_assoc];rfl⟩
  ·have aor:decide ((at':Int)<(m:Int))=false:=decide_eq_false (by omega)
   rw[List.drop_eq_nil_of_le (by omega),YI,List.append_nil] at he
   subst he
   clear hcell hlm hmc hc63 hM hB hS
   gi_wp2
   go_end0
   exact⟨⟨_,rfl⟩,.inl ⟨_,rfl,wC⟩⟩
def afL(l:List UInt8)(g:Nat×Nat)(c:Nat)(x:{ x:Nat×List UInt8 // Gg l x }):Array Value:=afK g c x.1
theorem Vq(n bB:Nat)(g:Nat×Nat)(m c:Nat)(l:List UInt8)(hm:m≤65536)(X:Nat→Prop)(hX:¬ X bB∧¬ X g.1∧¬ X 0)(w:World)(hM:∃ k,w.cell? ⟨0,0,none⟩=some (.int .i64 k))(hB:Box w bB #[.slice (some ⟨g.1,g.2,none⟩) m c] 35)(hS:au w (.slice (some ⟨g.1,g.2,none⟩) m c) 1 gI l) :
  SeqStopsK Fence.wide n Tryz.prog 97 #[.pointer (some ⟨bB,0,none⟩)] (afL l g c) (aX X) (fun ys=>ys.map (·.val)=tH l) (fun pre=>pre.map (·.val) <+: tH l) (tH l).length w:=fun lp J Jx W hW hJ _ hY h0=>by
 obtain⟨k,hk⟩:=hM
 refine(ad4 n lp bB g m c l hm X hX (fun pre W=>∃ p:List { x:Nat×List UInt8 // Gg l x },p.map (·.val)=pre∧J p W) (fun pre W=>∃ p:List { x:Nat×List UInt8 // Gg l x },p.map (·.val)=pre∧Jx p W) (fun pre A B ⟨p,hp,hA⟩ hg=>⟨p,hp,hJ p A B none hA hg (fun r e=>by cases e)⟩)
  (fun pre x W ⟨p,hp,hj⟩ hl hx=>(hY p ⟨x,hx⟩ W hj (by rw[←hp] at hl;simpa using hl)).mono (fun e W' h=>?_)) W ⟨k,(aX.below (X:=fun _=>False) hW).cell id hk⟩ (hB.kept hW) (hS.kept hW) ⟨[],rfl,h0⟩).mono (fun e W' h=>?_)
 ·rcases h with⟨h1,h2,h3⟩ | ⟨h1,h2⟩
  ·exact .inl ⟨h1,⟨_,by simp[hp],h2⟩,h3⟩
  ·exact .inr ⟨h1,_,by simp[hp],h2⟩
 ·rcases h with⟨h1,⟨_,rfl,p,hp,h2⟩ | ⟨_,h3,p,rfl,h2⟩⟩
  ·exact⟨h1,.inl ⟨p,hp,h2⟩⟩
  ·exact⟨h1,.inr ⟨p,h3,h2⟩⟩
theorem YJ(v:Value)(w:World)(hv:∃ a n c,v=.slice a n c):Calls Tryz.prog 62 #[v] w fun e w'=>e=.returned (.func (.func 97) #[] #[.pointer (some ⟨w.heap.size,0,none⟩)])∧w'=w.alloc (.cells #[v] 35):=by
 obtain⟨a,n,c,rfl⟩:=hv
 go_enter Tryz.func62,Tryz.ntmps62
 go_wp2
 have hmf:∀ (fn:Fn) (first cap:Array Value) (w:World),(Instr.makeFunc fn first cap).run Tryz.prog w=.ok (.func fn first cap) w:=fun _ _ _ _=>rfl
 go_ret
 exact⟨rfl,rfl⟩
end
section
open Go.RowKit Go.Shelf
attribute [local go_sem] Oper.semAt_some
section
variable {F:Fence} {n:Nat} {P:Program} {ops:Array Oper} {Q:Exit→Act→World→Prop} {md:Region.Mode} {fuel:Nat} {listed:Array Bool} {a:Act} {w:World}
theorem abj(i j:Nat)(hr:Region.ready md ops listed=[i,j])(h1:wpOpIn F n P ops Q i (wpAnyIn F n P md ops Q fuel (listed.setIfInBounds i true)) a w)(h2:wpOpIn F n P ops Q j (wpAnyIn F n P md ops Q fuel (listed.setIfInBounds j true)) a w):wpAnyIn F n P md ops Q (fuel+1) listed a w:=by
 refine⟨fun h=>(by rw[hr] at h;cases h),fun k hk=>?_⟩
 rw[hr,List.mem_cons,List.mem_singleton] at hk
 rcases hk with rfl | rfl
 ·exact h1
 ·exact h2
theorem Bv(i:Nat)(hr:Region.ready md ops listed=[i])(h1:wpOpIn F n P ops Q i (wpAnyIn F n P md ops Q fuel (listed.setIfInBounds i true)) a w):wpAnyIn F n P md ops Q (fuel+1) listed a w:=by
 refine⟨fun h=>(by rw[hr] at h;cases h),fun k hk=>?_⟩
 rw[hr,List.mem_singleton] at hk
 subst hk
 exact h1
theorem Lr(hr:Region.ready md ops listed=[])(h:Q .normal a w):wpAnyIn F n P md ops Q 0 listed a w:=⟨hr,h⟩
theorem zC{i:Nat}{K:Act→World→Prop}{o:Oper}(hi:ops[i]?=some o)(hw:Region.wanted o (yielded ops a.tmps)=true)(h:o.wpIn F n P a w K Q):wpOpIn F n P ops Q i K a w:=by
 unfold wpOpIn
 simp only[hi,hw,if_true]
 exact h
end
def xQ(acc:List (List UInt8×Tr))(x:Nat×List UInt8):Sum (Nat×Nat) (List (List UInt8×Tr)) :=
 if x.2.length=0∨x.2.getD 0 0=35 then .inr acc else match zn 4096 (acc.map (·.1)) x.2 with
  | none=>.inr acc
  | some (.inl q)=>.inl (q.1,q.2+x.1)
  | some (.inr y)=>.inr (acc++[y])
def uo(acc:List (List UInt8×Tr)):List (Nat×List UInt8)→Sum (Nat×Nat) (List (List UInt8×Tr))
 | []=>.inr acc
 | x::L=>match xQ acc x with
  | .inl q=>.inl q
  | .inr acc'=>uo acc' L
def uq(l:List UInt8):Sum (Nat×Nat) (List (List UInt8×Tr)):=if 65536<l.length then .inl (4,65536) else uo [] (tH l)
theorem Gh(acc:List (List UInt8×Tr))(L M:List (Nat×List UInt8)):uo acc (L++M)=match uo acc L with
  | .inl q=>.inl q
  | .inr a=>uo a M:=by
 induction L generalizing acc with
 | nil=>rfl
 | cons x L ih =>
  rw[List.cons_append,uo,uo]
  cases xQ acc x with
  | inl q=>rfl
  | inr a=>exact ih a
theorem abk{N:Nat}{hv:List (List UInt8)}{s:List UInt8}{y:List UInt8×Tr}(h:zn N hv s=some (.inr y)):hv.length≠64:=by
 rw[xK] at h
 cases hh:rQ hv s with
 | inl q=>rw[hh] at h;cases h
 | inr nm=>exact(FY hh).2.2.1
def alo(w:World)(ans:Sum (Nat×Nat) (List (List UInt8×Tr)))(e:Ending)(w':World):Prop:=Below w.heap.size w w'∧match ans with
 | .inl q=>e=.returned (.tuple #[.slice none 0 0,iw q.1 q.2])
 | .inr L=>∃ (a:Option Addr) (cap:Nat) (Rs:List (List UInt8×Vt)),e=.returned (.tuple #[.slice a Rs.length cap,iw 0 0])∧(Rs.map fun x=>(x.1,x.2.tr))=L∧Own w' w.heap.size 117 9 jk (.slice a Rs.length cap) Rs∧(∀ i (h:i<Rs.length),Lies w' Rs[i].2∧On (fun b=>w.heap.size≤b∧(Value.slice a Rs.length cap).ownBlock≠some b) Rs[i].2)
theorem Lies.WC{w:World}{V:Vt}(h:Lies w V):On (fun b=>∃ o:Obj,w.heap[b]?=some o∧o.isCells=true) V:=by
 induction h with
 | mk k s a cap kids lo hi _ _ _ hs _ ih =>
  refine .mk k s a cap kids lo hi (fun h0 ad ha=>?_) fun i hi=>ih i hi
  subst ha
  obtain⟨b,o,_,_,_,h4,h5⟩:=hs.open
  obtain rfl:=Option.some.inj (h4 0 h0)
  have hl:0<(kids[0].cells).length:=by rw[Vt.bK];decide
  exact cells_of_cell (h5 0 h0 0 _ (List.getElem?_eq_getElem hl))
theorem qR.YK{w w':World}{r base:Nat}{a:Option Addr}{cap:Nat}{Rs:List (List UInt8×Vt)}{m:Nat}(h:qR w r base a cap Rs m){row:Option Nat}(hg:w.grownBy w' row)(hr:∀ k,row=some k→base≤k∧∃ o:Obj,w.heap[k]?=some o∧o.isCells=false):qR w' r base a cap Rs m:=by
 have hlt:=h.lt
 have hc:∀ b,(∃ o:Obj,w.heap[b]?=some o∧o.isCells=true)→w'.heap[b]?=w.heap[b]?:=fun b ⟨o,ho,hc⟩=>hg.block b (Array.getElem?_eq_some_iff.1 ho).1 fun e=>by
  obtain⟨_,o',h1,h2⟩:=hr b e.symm
  rw[ho] at h1
  cases h1
  rw[hc] at h2;cases h2
 refine⟨(hc r ⟨_,h.box,rfl⟩).trans h.box,h.own.eG fun g hgg=>?_,h.map.same (hg.block m h.map.lt fun e=>by have:=(hr m e.symm).1;omega),fun i hi=>(h.lies i hi).fK (h.lies i hi).WC hc,h.on,hlt⟩
 obtain⟨_,c,hb⟩:=h.own.block g hgg
 exact hc g ⟨_,hb,rfl⟩
theorem dQ.YK{r m:Nat}{w0 w w':World}(h:dQ r m (.slice none 0 0) w0 w){row:Option Nat}(hg:w.grownBy w' row)(hr:∀ k,row=some k→w0.heap.size≤k):dQ r m (.slice none 0 0) w0 w' :=
 ⟨hg.os.trans h.os,hg.tape.trans h.tape,hg.output.trans h.output,Nat.le_trans h.size hg.size,fun b hb h1 h2 h3=>(hg.block b (Nat.lt_of_lt_of_le hb h.size) fun e=>by have:=hr b e.symm;omega).trans (h.block b hb h1 h2 h3)⟩
theorem dQ.from{w w':World}{r base:Nat}{a:Option Addr}{cap:Nat}{Rs:List (List UInt8×Vt)}{m:Nat}(hR:qR w r base a cap Rs m)(hk:dQ r m (.slice a Rs.length cap) w w'):KeepsFrom base w w':=⟨hk.size,fun k o hb h1 h2=>by
 have hlt:=hR.lt
 refine(hk.block k (Array.getElem?_eq_some_iff.1 h1).1 (by omega) (by omega) fun e=>?_).trans h1
 obtain⟨_,c,hb2⟩:=hR.own.block k e
 rw[show w.heap[k]?=_ from hb2] at h1
 cases h1;cases h2⟩
theorem dQ.alp{w w':World}{r base:Nat}{a:Option Addr}{cap:Nat}{Rs:List (List UInt8×Vt)}{m:Nat}{X:Nat→Prop}(hR:qR w r base a cap Rs m)(hk:dQ r m (.slice a Rs.length cap) w w')(hX:∀ k,¬ X k→k<base∧k≠r∧k≠m):aX X w w':=⟨hk.size,fun b hb _ _ _ e=>by
 obtain⟨h1,h2,h3⟩:=hX b hb
 exact(hk.block b (Array.getElem?_eq_some_iff.1 e).1 h2 h3 fun e2=>by have:=(hR.lS b e2).1;omega).trans e⟩
theorem Ls{w w':World}{D:Nat}(hg:w.grownBy w' (some D))(hD:∃ o:Obj,w.heap[D]?=some o∧o.isCells=false):∀ b:Nat,(∃ o:Obj,w.heap[b]?=some o∧o.isCells=true)→w'.heap[b]?=w.heap[b]?:=fun b ⟨o,ho,hc⟩=>hg.block b (Array.getElem?_eq_some_iff.1 ho).1 fun e=>by
 obtain⟨o',h1,h2⟩:=hD
 cases e
 rw[ho] at h1
 cases h1
 rw[hc] at h2;cases h2
theorem Lu{W:World}{b0 b1 n c:Nat}{a:Option Addr}{c1:Array Value}{tmps:Array Value}(h0:Box W b0 #[.slice a n c] 64)(h1:Box W b1 c1 66)(e1:c1.size=2)(t2:tmps.getD 2 undef=.pointer (some ⟨b0,0,none⟩))(t3:tmps.getD 3 undef=.pointer (some ⟨b1,0,none⟩)) :
  (results Tryz.f35 tmps).run Tryz.prog W=.ok (.tuple #[.slice a n c,.agg c1]) W:=by
 have t2':tmps[2]?.getD undef=.pointer (some ⟨b0,0,none⟩):=by simpa using t2
 have t3':tmps[3]?.getD undef=.pointer (some ⟨b1,0,none⟩):=by simpa using t3
 have c0:=h0.cell 0
 have hl:(loadVar 64 ⟨b0,0,none⟩).run Tryz.prog W=.ok (.slice a n c) W:=by go_simp
 have h2:=run_loadVar_row (P:=Tryz.prog) W b1 66 66 c1 (0,0) _ h1 Tryz.underlying66 rfl (by rw[e1];kernel_rfl)
 simp[results,Tryz.f35,t2',t3',asAddr,hl,h2]
abbrev Qu(l:List UInt8):={ x:Nat×List UInt8 // Gg l x }
def RdI(l:List UInt8)(r m:Nat)(W0:World)(pre:List (Qu l))(W:World):Prop:=∃ a cap Rs,uo [] (pre.map (·.val))=.inr (Rs.map fun x=>(x.1,x.2.tr))∧Rs.length≤64∧qR W r W0.heap.size a cap Rs m∧dQ r m (.slice none 0 0) W0 W
def RdX(l:List UInt8)(b0:Nat)(w:World)(c:Code)(pre:List (Qu l))(W:World):Prop:=c=.ret∧∃ q,uo [] (pre.map (·.val))=.inl q∧Box W b0 #[.slice none 0 0] 64∧Box W (b0+1) #[.int .i64 q.1,.int .i64 q.2] 66∧Below b0 w W
theorem RdI.own{l:List UInt8}{r m:Nat}{W0:World}:OwnFrom W0.heap.size (RdI l r m W0):=fun _ _ _ _ ⟨a,cap,Rs,h1,h2,h3,h4⟩ hg hr =>
 ⟨a,cap,Rs,h1,h2,h3.YK hg hr,h4.YK hg fun k e=>(hr k e).1⟩
theorem RdX.own{l:List UInt8}{b0 B:Nat}{w:World}{c:Code}(hb:b0+1<B):OwnFrom B (RdX l b0 w c):=fun _ _ _ _ ⟨h1,q,h2,h3,h4,h5⟩ hg hr =>
 ⟨h1,q,h2,(hg.block _ h3.lt fun e=>by have:=(hr _ e.symm).1;omega).trans h3,(hg.block _ h4.lt fun e=>by have:=(hr _ e.symm).1;omega).trans h4,h5.trans ⟨hg.os,hg.tape,hg.output,hg.size,fun k hk=>hg.block k (by have:=h3.lt;omega) fun e=>by have:=(hr _ e.symm).1;omega⟩⟩
set_option maxRecDepth 100000 in
theorem abm(g:Nat×Nat)(m c:Nat)(l:List UInt8)(w:World)(hS:au w (.slice (some ⟨g.1,g.2,none⟩) m c) 1 gI l)(hg:g.1<w.heap.size)(hM:∃ k,w.cell? ⟨0,0,none⟩=some (.int .i64 k))(h0:0<w.heap.size)(hl:l.length≤65536)(Sl:FD l) :
  Calls Tryz.prog 35 #[.slice (some ⟨g.1,g.2,none⟩) m c] w (alo w (uq l)):=by
 have hml:=hS.cellsA.1
 have hmm:=@run_makeMap Tryz.prog
 have e1:decide (65536<(m:Int))=false:=by simp;omega
 have HML:=ah hml
 have HS:=ah hS
 have qC:=ah Sl
 clear hml hS Sl
 refine(callsIn_wide (n:=6)).1 ?_
 refine callsIn_of_wp_marks Tryz.func35 rfl trivial ?_ rfl
 simp only[Tryz.ntmps35,List.size_toArray,List.length_cons,List.length_nil,Nat.reduceAdd,Nat.reduceSub,Array.replicate_succ,Array.replicate_zero,List.push_toArray,List.append_toArray,List.nil_append,List.cons_append]
 gi_wp2
 refine wpIn_wide.2 (wp_scope_straight ((wpIn_wide (n:=6)).1 ?_))
 gi_wp2
 refine wpIn_label ?_
 gi_wp2_with (refine⟨trivial,?_⟩;gi_at_call 62;refine(callsIn_wide.2 (YJ _ _ ⟨_,_,_,rfl⟩)).mono ?_;rintro e w' ⟨rfl,rfl⟩)
 obtain⟨W0,hW0⟩:∃ W0,(((((w.alloc (.cells #[.slice none 0 0] 64)).alloc (.cells #[.int .i64 0,.int .i64 0] 66)).alloc (.map #[] 0)).alloc (.cells #[.slice none 0 0,.map (some (w.heap.size+1+1))] 103)).alloc (.cells #[.slice (some ⟨g.1,g.2,none⟩) m c] 35))=W0:=⟨_,rfl⟩
 have hsz0:W0.heap.size=w.heap.size+1+1+1+1+1:=by rw[←hW0];simp
 have hB0:Below w.heap.size w W0:=by rw[←hW0];exact(((((Below.refl _ w).alloc (Nat.le_refl _) _).alloc (by simp) _).alloc (by simp;omega) _).alloc (by simp;omega) _).alloc (by simp;omega) _
 have b0:Box W0 w.heap.size #[.slice none 0 0] 64:=by rw[←hW0];exact((((Box.new' rfl _ _).alloc _).alloc _).alloc _).alloc _
 have b1:Box W0 (w.heap.size+1) #[.int .i64 0,.int .i64 0] 66:=by rw[←hW0];exact(((Box.new' (by simp) _ _).alloc _).alloc _).alloc _
 have b2:aP W0 (w.heap.size+1+1) (fun s:List UInt8=>sv s) []:=by rw[←hW0];exact((aP.new' (by simp) _).alloc _).alloc _
 have b3:Box W0 (w.heap.size+1+1+1) #[.slice none 0 0,.map (some (w.heap.size+1+1))] 103:=by rw[←hW0];exact(Box.new' (by simp) _ _).alloc _
 have b4:Box W0 (w.heap.size+1+1+1+1) #[.slice (some ⟨g.1,g.2,none⟩) m c] 35:=by rw[←hW0];exact Box.new' (by simp) _ _
 rw[hW0]
 clear hW0
 have hS0:=HS.out.kept hB0
 have hM0:∃ k,W0.cell? ⟨0,0,none⟩=some (.int .i64 k):=by
  obtain⟨k,hk⟩:=hM
  exact⟨k,(World.cell?_of_block (a:=⟨0,0,none⟩) (hB0.block 0 h0)).trans hk⟩
 obtain⟨k0,hk0⟩:=hM0
 have hst:=Vq 5 (w.heap.size+1+1+1+1) g m c l (by rw[HML.out];exact hl) (fun k=>¬ (k=w.heap.size+1+1+1+1∨k=g.1∨k=0)) ⟨fun h=>h (.inl rfl),fun h=>h (.inr (.inl rfl)),fun h=>h (.inr (.inr rfl))⟩ W0 ⟨k0,hk0⟩ b4 hS0
 have hR0:qR W0 (w.heap.size+1+1+1) W0.heap.size none 0 [] (w.heap.size+1+1):=⟨b3,Own.nil _ _ _ _ _,b2,fun i hi=>by simp at hi,fun i hi=>by simp at hi,by omega,by omega,by omega⟩
 refine wpIn_rangeFunc_ownG rfl (by decide) (gf:=97) (lb:=#[.pointer (some ⟨w.heap.size+1+1+1+1,0,none⟩)]) rfl trivial (enters_of Tryz.func97 (by kernel_rfl) rfl)
  hst (fun h k=>h.trans k) GK (Below.refl _ _) (fun _=>rfl)
  (RdI l (w.heap.size+1+1+1) (w.heap.size+1+1) W0) (RdX l w.heap.size w) RdI.own (fun _=>RdX.own (by omega))
  ⟨none,0,[],rfl,by simp,hR0,dQ.below (Below.refl _ _)⟩
  (fun x=>{ tmps:=#[.slice (some ⟨g.1,g.2,none⟩) m c,undef,.pointer (some ⟨w.heap.size,0,none⟩),.pointer (some ⟨w.heap.size+1,0,none⟩),.pointer (some ⟨w.heap.size+1+1+1,0,none⟩),.int .i64 x.1.1,.slice (some ⟨g.1,g.2+x.1.1,none⟩) x.1.2.length (c - x.1.1),undef,.slice (some ⟨g.1,g.2,none⟩) m c,.int .i64 m,.bool false,undef,.map (some (w.heap.size+1+1)),.agg #[.slice none 0 0,.map (some (w.heap.size+1+1))],.slice (some ⟨g.1,g.2,none⟩) m c,.func (.func 97) #[] #[.pointer (some ⟨w.heap.size+1+1+1+1,0,none⟩)],.int .i64 x.1.1,.slice (some ⟨g.1,g.2+x.1.1,none⟩) x.1.2.length (c - x.1.1)]++Array.replicate 23 undef,defers:=[] }) ?assign ?body ?done ?stop
 case assign =>
  intro lp x W K hK
  simp only[Array.replicate_succ,Array.replicate_zero,List.push_toArray,List.append_toArray,List.nil_append,List.cons_append] at hK
  unfold afL
  go_simp
  gi_wp2
  exact hK
 case body =>
  rintro lp pre ⟨⟨at',s⟩,hx⟩ W ⟨a,cap,Rs,hf,h64,hR,hK⟩ hlt
  have hx1:at'+s.length≤l.length:=hx.1
  have hx2:s=(l.drop at').take s.length:=hx.2
  have hstep:uo [] ((pre++[(⟨(at',s),hx⟩:Qu l)]).map (·.val))=xQ (Rs.map fun x=>(x.1,x.2.tr)) (at',s):=by
   rw[List.map_append,Gh,hf]
   show uo _ [(at',s)]=_
   rw[uo]
   cases xQ (Rs.map fun x=>(x.1,x.2.tr)) (at',s) <;> rfl
  simp only[Array.replicate_succ,Array.replicate_zero,List.push_toArray,List.append_toArray,List.nil_append,List.cons_append]
  have hm:=HML.out
  have hlt0:=hR.lt
  have hWs:=hK.size
  have hSW:au W (.slice (some ⟨g.1,g.2,none⟩) m c) 1 gI l:=hS0.fK fun _ ad e=>by
   cases e
   exact hK.block g.1 (by omega) (by omega) (by omega) (fun e=>by cases e)
  obtain⟨_,hmc,hc63,hcell⟩:=hSW.cellsA
  have HST:=ah hstep
  by_cases hs0:s.length=0
  ·have e0:((s.length:Int)==0)=true:=by rw[hs0];rfl
   have hst2:xQ (Rs.map fun x=>(x.1,x.2.tr)) (at',s)=.inr (Rs.map fun x=>(x.1,x.2.tr)):=by unfold xQ;rw[if_pos (.inl hs0)]
   rw[hst2] at HST
   have HRR:=ah (show qR _ _ _ _ _ _ _∧dQ _ _ _ _ _ from⟨hR,hK⟩)
   clear hst2 hs0 hcell hSW hx2 hR hK hm hmc hstep
   gi_wp2
   exact⟨KeepsFrom.refl _ _,aX.refl _ _,a,cap,Rs,HST.out,h64,HRR.out.1,HRR.out.2⟩
  ·have e0:((s.length:Int)==0)=false:=by rw[beq_eq_false_iff_ne];omega
   have asH:0<s.length:=by omega
   have hy:=hcell at' (by omega) W (Below.refl _ _)
   have hsg:l[at']'(by omega)=s.getD 0 0:=by
    refine Eq.symm ((congrArg (fun z:List UInt8=>z.getD 0 0) hx2).trans ?_)
    show((l.drop at').take s.length).getD 0 0=_
    rw[List.getD_eq_getElem?_getD,List.getElem?_take,if_pos (by omega),List.getElem?_drop,Nat.add_zero,List.getElem?_eq_getElem (by omega:at'<l.length),Option.getD_some]
   rw[hsg] at hy
   by_cases h35:s.getD 0 0=35
   ·have hst2:xQ (Rs.map fun x=>(x.1,x.2.tr)) (at',s)=.inr (Rs.map fun x=>(x.1,x.2.tr)):=by unfold xQ;rw[if_pos (.inr h35)]
    rw[hst2] at HST
    rw[h35] at hy
    have y0:W.cell? ⟨g.1,g.2+at',none⟩=some (.int .u8 35):=hy
    have HRR:=ah (show qR _ _ _ _ _ _ _∧dQ _ _ _ _ _ from⟨hR,hK⟩)
    clear hst2 hs0 hcell hSW hx2 hR hK hm hmc hy hsg h35 hstep
    gi_wp2
    exact⟨KeepsFrom.refl _ _,aX.refl _ _,a,cap,Rs,HST.out,h64,HRR.out.1,HRR.out.2⟩
   ·have hne:(((s.getD 0 0).toNat:Int)==35)=false:=by
     rw[beq_eq_false_iff_ne]
     intro e
     refine h35 (UInt8.toNat_inj.1 ?_)
     have:(s.getD 0 0).toNat=35:=by omega
     rw[this];rfl
    have hst2:xQ (Rs.map fun x=>(x.1,x.2.tr)) (at',s)=match zn 4096 (Rs.map (·.1)) s with
      | none=>.inr (Rs.map fun x=>(x.1,x.2.tr))
      | some (.inl q)=>.inl (q.1,q.2+at')
      | some (.inr y)=>.inr ((Rs.map fun x=>(x.1,x.2.tr))++[y]):=by
     unfold xQ
     rw[if_neg (by rintro(h | h);exact hs0 h;exact h35 h),List.map_map]
     rfl
    rw[hst2] at HST
    have hsub:=au.sub (f:=fun x:UInt8=>Value.int .u8 x.toNat) hSW at' s.length (by omega)
    rw[←hx2] at hsub
    unfold Jl at hsub
    rw[if_neg (by omega)] at hsub
    generalize s.getD 0 0=ch at *
    cases hP:zn 4096 (Rs.map (·.1)) s with
    | none=>exact absurd hP (Yv _ _)
    | some P =>
     rw[hP] at HST
     have hqa:=fun q (e:P=.inl q)=>adN (q:=q) (by omega:s.length≤65536) (by rw[←e];exact hP)
     have hln:=ag5 4096 (by decide) (w.heap.size+1+1+1) W0.heap.size a cap Rs (w.heap.size+1+1) (g.1,g.2+at') s.length (c - at') s W hR hsub (by omega) h64 (by show g.1<_;omega) hWs (qC.out.of fun b hb=>by rw[hx2] at hb;exact List.mem_of_mem_drop (List.mem_of_mem_take hb)) P hP (fun q e=>by have:=(hqa q e).1;omega)
     have qU:=fun y (e:P=.inr y)=>abk (y:=y) (by rw[←e];exact hP)
     have aos:=ah qU
     have oU:=ah hln
     have HRR:=ah (show qR _ _ _ _ _ _ _∧dQ _ _ _ _ _ from⟨hR,hK⟩)
     have HQA:=ah hqa
     have y0:=hy
     have asI:at'≤65536:=by omega
     have aiB:∀ k,¬ ¬ (k=w.heap.size+1+1+1+1∨k=g.1∨k=0)→k<W0.heap.size∧k≠w.heap.size+1+1+1∧k≠w.heap.size+1+1:=fun k h=>by
      rcases Classical.not_not.1 h with h | h | h <;> omega
     have HBC:=ah aiB
     clear hst2 hs0 hcell hSW hx2 hR hK hm hmc hy hsg h35 hstep hP hln hqa hsub aiB qU
     cases P with
     | inl q =>
      obtain⟨qk,qp⟩:=q
      have RD:=HQA.out _ rfl
      have hqp:qp≤200000:=RD.1
      have hqk:qk≠0:=RD.2
      have ek:((qk:Int) != 0)=true:=by rw[bne_iff_ne];omega
      clear RD hqk
      gi_wp2_with (refine⟨trivial,?_⟩;gi_at_call 63;refine(CallsIn.inRound lp (callsIn_wide.2 oU.out)).mono ?_;rintro e w1 ⟨rfl,hR1,hk1⟩;unfold iw)
      have hz:=hR1.box.lt
      have hB1:=aj w1 (.cells #[.int .i64 qk,.int .i64 ((qp:Int)+(at':Int))] 66)
      have hW1:(w1.alloc (.cells #[.int .i64 qk,.int .i64 ((qp:Int)+(at':Int))] 66)).heap.size=w1.heap.size+1:=by simp
      have t7:Box (w1.alloc (.cells #[.int .i64 qk,.int .i64 ((qp:Int)+(at':Int))] 66)).drew w1.heap.size #[.int .i64 qk,.int .i64 ((qp:Int)+(at':Int))] 66:=(Box.new w1 _ _).drew
      obtain⟨hR,hK⟩:=HRR.out
      have Bg:=((hK.trans (fun gg hg=>.inr (hR.lS gg hg).1) hk1).trans (yw:=.slice a Rs.length cap) (fun gg hg=>.inr (hR1.lS gg hg).1) (dQ.below hB1))
      have hw1:=Bg.size
      rw[hW1] at hw1
      have t2:Box (w1.alloc (.cells #[.int .i64 qk,.int .i64 ((qp:Int)+(at':Int))] 66)).drew w.heap.size #[.slice none 0 0] 64:=Box.drew ((Bg.block _ (by omega) (by omega) (by omega) (fun e=>by cases e)).trans b0)
      have t3:Box (w1.alloc (.cells #[.int .i64 qk,.int .i64 ((qp:Int)+(at':Int))] 66)).drew (w.heap.size+1) #[.int .i64 0,.int .i64 0] 66:=Box.drew ((Bg.block _ (by omega) (by omega) (by omega) (fun e=>by cases e)).trans b1)
      have hKF:KeepsFrom W0.heap.size W (w1.alloc (.cells #[.int .i64 qk,.int .i64 ((qp:Int)+(at':Int))] 66)).drew:=((hk1.from hR).trans ((KeepsOthers.alloc w1 _).from _)).trans (⟨Nat.le_refl _,fun _ _ _ h _=>h⟩:KeepsFrom W0.heap.size (w1.alloc (.cells #[.int .i64 qk,.int .i64 ((qp:Int)+(at':Int))] 66)) (w1.alloc (.cells #[.int .i64 qk,.int .i64 ((qp:Int)+(at':Int))] 66)).drew)
      have hBb:Below w.heap.size w (w1.alloc (.cells #[.int .i64 qk,.int .i64 ((qp:Int)+(at':Int))] 66)).drew:=(hB0.trans ⟨Bg.os,Bg.tape,Bg.output,Bg.size,fun k hk=>Bg.block k (by omega) (by omega) (by omega) (fun e=>by cases e)⟩).trans (Below.refl _ _).drew
      refine wpIn_region_any (by kernel_rfl) ?_
      change wpAnyIn _ _ _ _ _ _ _ _ _ (w1.alloc (.cells #[.int .i64 qk,.int .i64 ((qp:Int)+(at':Int))] 66)).drew
      generalize (w1.alloc (.cells #[.int .i64 qk,.int .i64 ((qp:Int)+(at':Int))] 66)).drew=W2 at *
      have c70:=t7.cell 0;have c71:=t7.cell 1;have c20:=t2.cell 0;have f20:=t2.free 0;have c30:=t3.cell 0;have c31:=t3.cell 1;have f30:=t3.free 0;have f31:=t3.free 1
      have hfin:KeepsFrom W0.heap.size W (((W2.setCell ⟨w.heap.size,0,none⟩ (.slice none 0 0)).setCell ⟨w.heap.size+1,0,none⟩ (.int .i64 qk)).setCell ⟨w.heap.size+1,1,none⟩ (.int .i64 ((qp:Int)+(at':Int))))∧RdX l w.heap.size w .ret (pre++[(⟨(at',s),hx⟩:Qu l)]) (((W2.setCell ⟨w.heap.size,0,none⟩ (.slice none 0 0)).setCell ⟨w.heap.size+1,0,none⟩ (.int .i64 qk)).setCell ⟨w.heap.size+1,1,none⟩ (.int .i64 ((qp:Int)+(at':Int)))):=by
       refine⟨((hKF.trans ((KeepsOthers.setCell _ _ _).from _)).trans ((KeepsOthers.setCell _ _ _).from _)).trans ((KeepsOthers.setCell _ _ _).from _),rfl,(qk,qp+at'),HST.out,((t2.set 0 (.slice none 0 0)).other _ _ (by simp)).other _ _ (by simp),?_,((hBb.setCell (p:=⟨w.heap.size,0,none⟩) (by simp) _).setCell (p:=⟨w.heap.size+1,0,none⟩) (by simp) _).setCell (p:=⟨w.heap.size+1,1,none⟩) (by simp) _⟩
       rw[show((qk,qp+at').2:Nat)=qp+at' from rfl,show(((qp+at':Nat)):Int)=(qp:Int)+(at':Int) by omega]
       exact((t3.other ⟨w.heap.size,0,none⟩ (.slice none 0 0) (by simp)).set 0 (.int .i64 qk)).set 1 (.int .i64 ((qp:Int)+(at':Int)))
      have NC:=ah hfin
      clear hfin hKF hBb Bg hR hK
      refine abj 0 1 (by kernel_rfl) ?_ ?_
      ·refine zC rfl (by rfl) ?_
       gi_step
       refine Bv 1 (by kernel_rfl) ?_
       refine zC rfl (by rfl) ?_
       gi_step
       refine Bv 2 (by kernel_rfl) ?_
       refine zC rfl (by rfl) ?_
       gi_step
       refine Lr (by kernel_rfl) ?_
       gi_wp2
       exact NC.out
      ·refine zC rfl (by rfl) ?_
       gi_step
       refine Bv 0 (by kernel_rfl) ?_
       refine zC rfl (by rfl) ?_
       gi_step
       refine Bv 2 (by kernel_rfl) ?_
       refine zC rfl (by rfl) ?_
       gi_step
       refine Lr (by kernel_rfl) ?_
       gi_wp2
       exact NC.out
     | inr y =>
      gi_wp2_with (refine⟨trivial,?_⟩;gi_at_call 63;refine(CallsIn.inRound lp (callsIn_wide.2 oU.out)).mono ?_;rintro e w1 ⟨a',cap',V,rfl,hV,hR1,hk1,hf1⟩;unfold iw)
      have hB1:=aj w1 (.cells #[.int .i64 0,.int .i64 0] 66)
      have hl1:(Rs++[(y.1,V)]).length=Rs.length+1:=by simp
      obtain⟨hR,hK⟩:=HRR.out
      have qU:Rs.length≠64:=by have:=aos.out y rfl;simpa using this
      refine⟨(hk1.from hR).trans ((KeepsOthers.alloc w1 _).from _),(hk1.alp hR HBC.out).trans (aX.below hB1),a',cap',Rs++[(y.1,V)],HST.out.trans ?_,by omega,hR1.kept hB1,(hK.trans (fun gg hg=>.inr (hR.lS gg hg).1) hk1).trans (fun gg hg=>.inr ?_) (dQ.below (ov:=.slice a' (Rs.length+1) cap') hB1)⟩
      ·rw[List.map_append]
       show Sum.inr (_++[y])=Sum.inr (_++[(y.1,V.tr)])
       rw[hV]
      ·exact(hR1.lS gg (by rw[hl1];exact hg)).1
 case done =>
  intro Dd xs W hD hS1 ⟨a,cap,Rs,hf,h64,hR,hK⟩ YL
  have hS1:xs.map (·.val)=tH l:=hS1
  rw[hS1] at hf
  have hans:uq l=.inr (Rs.map fun x=>(x.1,x.2.tr)):=by unfold uq;rw[if_neg (by omega)];exact hf
  have hWs:=hK.size
  have t2:Box W w.heap.size #[.slice none 0 0] 64:=(hK.block _ (by omega) (by omega) (by omega) (fun e=>by cases e)).trans b0
  have t3:Box W (w.heap.size+1) #[.int .i64 0,.int .i64 0] 66:=(hK.block _ (by omega) (by omega) (by omega) (fun e=>by cases e)).trans b1
  have hBW:Below w.heap.size w W:=hB0.trans ⟨hK.os,hK.tape,hK.output,hK.size,fun k hk=>hK.block k (by omega) (by omega) (by omega) (fun e=>by cases e)⟩
  have c0:=hR.box.cell 0
  have c20:=t2.cell 0;have f20:=t2.free 0;have c30:=t3.cell 0;have c31:=t3.cell 1;have f30:=t3.free 0;have f31:=t3.free 1
  have lT:=ah hans
  have HR:=ah hR
  clear hS1 hf hans hR
  gi_wp2
  have hbb:∀ x,W0.heap.size≤x→(((W.setCell ⟨w.heap.size,0,none⟩ (.slice a Rs.length cap)).setCell ⟨w.heap.size+1,0,none⟩ (.int .i64 0)).setCell ⟨w.heap.size+1,1,none⟩ (.int .i64 0)).heap[x]?=W.heap[x]?:=fun x hx =>
   (heap_setCell_other _ ⟨w.heap.size+1,1,none⟩ x _ (by show x≠w.heap.size+1;omega)).trans ((heap_setCell_other _ ⟨w.heap.size+1,0,none⟩ x _ (by show x≠w.heap.size+1;omega)).trans (heap_setCell_other _ ⟨w.heap.size,0,none⟩ x _ (by show x≠w.heap.size;omega)))
  have u2:=((t2.set 0 (.slice a Rs.length cap)).other ⟨w.heap.size+1,0,none⟩ (.int .i64 0) (by simp)).other ⟨w.heap.size+1,1,none⟩ (.int .i64 0) (by simp)
  have u3:=((t3.other ⟨w.heap.size,0,none⟩ (.slice a Rs.length cap) (by simp)).set 0 (.int .i64 0)).set 1 (.int .i64 0)
  have hBf:=((hBW.setCell (p:=⟨w.heap.size,0,none⟩) (by simp) (.slice a Rs.length cap)).setCell (p:=⟨w.heap.size+1,0,none⟩) (by simp) (.int .i64 0)).setCell (p:=⟨w.heap.size+1,1,none⟩) (by simp) (.int .i64 0)
  have hR:=HR.out
  have aiC:=hR.own.eG fun gg hgg=>hbb gg (hR.lS gg hgg).1
  have lf:=fun i hi=>(hR.lies i hi).fK (hR.on i hi) fun x hx=>hbb x hx.1
  have hDf:=(hbb Dd hD).trans YL
  generalize (((W.setCell ⟨w.heap.size,0,none⟩ (.slice a Rs.length cap)).setCell ⟨w.heap.size+1,0,none⟩ (.int .i64 0)).setCell ⟨w.heap.size+1,1,none⟩ (.int .i64 0))=Wf at *
  have tJ:=grownBy_putObj' Wf Dd (.deferred none)
  have hct:=Ls tJ ⟨_,hDf,rfl⟩
  refine⟨by simp,.inl ⟨_,_,rfl,run_takeDeferred hDf,?_⟩⟩
  have v2:Box (Wf.putObj Dd (.deferred none)) w.heap.size #[.slice a Rs.length cap] 64:=(hct _ ⟨_,u2,rfl⟩).trans u2
  have v3:Box (Wf.putObj Dd (.deferred none)) (w.heap.size+1) #[.int .i64 0,.int .i64 0] 66:=(hct _ ⟨_,u3,rfl⟩).trans u3
  refine⟨_,Lu v2 v3 rfl rfl rfl,hBf.trans ⟨tJ.os,tJ.tape,tJ.output,tJ.size,fun k hk=>tJ.block k (by have:=hBf.size;omega) (fun e=>by cases e;omega)⟩,?_⟩
  rw[lT.out]
  refine⟨a,cap,Rs,rfl,rfl,(aiC.eG fun gg hgg=>?_).mono (by omega),fun i hi=>⟨(lf i hi).fK (lf i hi).WC hct,(hR.on i hi).mono fun x hx=>⟨by omega,hx.2⟩⟩⟩
  obtain⟨_,cc,hbx⟩:=aiC.block gg hgg
  exact hct gg ⟨_,hbx,rfl⟩
 case stop =>
  rintro Dd c1 pre W hD hpre ⟨rfl,q,hf,t2,t3,hBW⟩ YL
  have hans:uq l=.inl q:=by
   unfold uq
   rw[if_neg (by omega)]
   obtain⟨post,hp⟩:=(hpre:pre.map (·.val) <+: tH l)
   rw[←hp,Gh,hf]
  have lT:=ah hans
  clear hans hf hpre
  gi_wp2
  have tJ:=grownBy_putObj' W Dd (.deferred none)
  have hct:=Ls tJ ⟨_,YL,rfl⟩
  refine⟨by simp,.inl ⟨_,_,rfl,run_takeDeferred YL,?_⟩⟩
  have v2:Box (W.putObj Dd (.deferred none)) w.heap.size #[.slice none 0 0] 64:=(hct _ ⟨_,t2,rfl⟩).trans t2
  have v3:Box (W.putObj Dd (.deferred none)) (w.heap.size+1) #[.int .i64 q.1,.int .i64 q.2] 66:=(hct _ ⟨_,t3,rfl⟩).trans t3
  refine⟨_,Lu v2 v3 rfl rfl rfl,hBW.trans ⟨tJ.os,tJ.tape,tJ.output,tJ.size,fun k hk=>tJ.block k (by have:=hBW.size;omega) (fun e=>by cases e;omega)⟩,?_⟩
  rw[lT.out]
  rfl
end
section
open Go.RowKit
def dF(sets:List (List Nat))(l:List Nat):Nat×List (List Nat):=match sets.idxOf? l with | some k=>(k,sets) | none=>(sets.length,sets++[l])
def rowP(y:Nf)(most:Nat)(l:List Nat):List Nat→List (List Nat)→List Int→Option (List (List Nat)×List Int)
 | [],sets,row=>some (sets,row)
 | c::low,sets,row =>
  let r:=dF sets (iK y l c)
  if most<r.2.length then none else rowP y most l low r.2 (row++[(r.1:Int)])
def kD(y:Nf)(most:Nat)(low:List Nat):Nat→Nat→List (List Nat)→List (List Int)→Option (List (List Nat)×List (List Int))
 | 0,_,sets,next=>some (sets,next)
 | f+1,i,sets,next=>if i<sets.length then (match rowP y most (sets.getD i []) low sets [] with
   | none=>none
   | some (Bz,row)=>kD y most low f (i+1) Bz (next++[row])) else some (sets,next)
def iP(y:Nf)(l:List Nat):Int:=match (List.range 65).find? fun k=>decide (0<k)&&l.any fun s=>y.accept.getD s 0==k with | some k=>(k:Int) | none=>0
end
section
open Go.RowKit
structure jE where
 m:Nat
 st:Nat
 of:Nat→Nat
 lo:Value
 tb:Nat
 sv:Value
 nv:Value
def dJ(B:jE):Array Value:=(#[Value.pointer (some ⟨B.m,0,none⟩),.int .i64 B.st]++aG B.of)++#[B.lo,.pointer (some ⟨B.tb,0,none⟩),B.sv,B.nv]
theorem tV(B:jE):(dJ B).size=262:=by unfold dJ;rw[Array.size_append,Array.size_append,aU];rfl
theorem BX(B:jE)(i:Nat)(h:i<2):(dJ B)[i]?=(#[Value.pointer (some ⟨B.m,0,none⟩),.int .i64 B.st])[i]?:=by
 unfold dJ
 rw[Array.getElem?_append_left (by rw[Array.size_append,aU];show i<2+256;omega),Array.getElem?_append_left (by exact h)]
theorem uT(B:jE)(i:Nat)(h:i<256):(dJ B)[2+i]?=some (.int .u8 (B.of i:Nat)):=by
 unfold dJ
 rw[Array.getElem?_append_left (by rw[Array.size_append,aU];show 2+i<2+256;omega),Array.getElem?_append_right (by show 2≤2+i;omega)]
 show(aG B.of)[2+i - 2]?=_
 rw[show 2+i - 2=i by omega,dG _ _ h]
theorem tX(B:jE)(i:Nat):(dJ B)[258+i]?=(#[B.lo,Value.pointer (some ⟨B.tb,0,none⟩),B.sv,B.nv])[i]?:=by
 unfold dJ
 rw[Array.getElem?_append_right (by rw[Array.size_append,aU];show 2+256≤_;omega),Array.size_append,aU]
 show(#[B.lo,Value.pointer (some ⟨B.tb,0,none⟩),B.sv,B.nv])[258+i - (2+256)]?=_
 rw[show 258+i - (2+256)=i by omega]
theorem zq{B:jE}{c:Array Value}(hs:c.size=262)(h0:c[0]?=some (.pointer (some ⟨B.m,0,none⟩)))(h1:c[1]?=some (.int .i64 B.st))(ho:∀ i,i<256→c[2+i]?=some (.int .u8 (B.of i:Nat)))
  (h2:c[258]?=some B.lo) (h3:c[259]?=some (.pointer (some ⟨B.tb,0,none⟩))) (h4:c[260]?=some B.sv) (h5:c[261]?=some B.nv):c=dJ B:=by
 apply Array.ext_getElem?
 intro i
 by_cases a:i<2
 ·rw[BX B i a]
  rcases Nat.lt_or_ge i 1 with e | e
  ·obtain rfl:i=0:=by omega
   exact h0
  ·obtain rfl:i=1:=by omega
   exact h1
 ·by_cases b:i<258
  ·obtain⟨j,rfl⟩:∃ j,i=2+j:=⟨i - 2,by omega⟩
   rw[uT B j (by omega),ho j (by omega)]
  ·obtain⟨j,rfl⟩:∃ j,i=258+j:=⟨i - 258,by omega⟩
   rw[tX]
   by_cases d:j<4
   ·rcases Nat.lt_or_ge j 1 with e | e
    ·obtain rfl:j=0:=by omega
     exact h2
    rcases Nat.lt_or_ge j 2 with e | e
    ·obtain rfl:j=1:=by omega
     exact h3
    rcases Nat.lt_or_ge j 3 with e | e
    ·obtain rfl:j=2:=by omega
     exact h4
    ·obtain rfl:j=3:=by omega
     exact h5
   ·rw[Array.getElem?_eq_none (by omega),Array.getElem?_eq_none (by show 4≤j;omega)]
theorem kQ(B:jE):(dJ B)[0]?=some (.pointer (some ⟨B.m,0,none⟩)):=BX B 0 (by decide)
theorem tY(B:jE):(dJ B)[1]?=some (.int .i64 B.st):=BX B 1 (by decide)
theorem uU(B:jE):(dJ B)[258]?=some B.lo:=tX B 0
theorem uV(B:jE):(dJ B)[259]?=some (.pointer (some ⟨B.tb,0,none⟩)):=tX B 1
theorem kX(B:jE):(dJ B)[260]?=some B.sv:=tX B 2
theorem uX(B:jE):(dJ B)[261]?=some B.nv:=tX B 3
theorem fU(B:jE)(k i:Nat)(v:Value)(h:k<262):((dJ B).setIfInBounds k v)[i]?=if k=i then some v else (dJ B)[i]?:=by
 rw[Array.getElem?_setIfInBounds,tV]
 by_cases e:k=i
 ·rw[if_pos e,if_pos e,if_pos (by omega)]
 ·rw[if_neg e,if_neg e]
theorem Vr(B:jE)(v:Value):(dJ B).setIfInBounds 260 v=dJ { B with sv:=v }:=by
 refine zq (by rw[Array.size_setIfInBounds,tV]) ?_ ?_ ?_ ?_ ?_ ?_ ?_
 ·rw[fU _ _ _ _ (by decide),if_neg (by decide)];exact kQ B
 ·rw[fU _ _ _ _ (by decide),if_neg (by decide)];exact tY B
 ·intro i hi;rw[fU _ _ _ _ (by decide),if_neg (by omega)];exact uT B i hi
 ·rw[fU _ _ _ _ (by decide),if_neg (by decide)];exact uU B
 ·rw[fU _ _ _ _ (by decide),if_neg (by decide)];exact uV B
 ·rw[fU _ _ _ _ (by decide),if_pos rfl]
 ·rw[fU _ _ _ _ (by decide),if_neg (by decide)];exact uX B
theorem Vs(B:jE)(v:Value):(dJ B).setIfInBounds 261 v=dJ { B with nv:=v }:=by
 refine zq (by rw[Array.size_setIfInBounds,tV]) ?_ ?_ ?_ ?_ ?_ ?_ ?_
 ·rw[fU _ _ _ _ (by decide),if_neg (by decide)];exact kQ B
 ·rw[fU _ _ _ _ (by decide),if_neg (by decide)];exact tY B
 ·intro i hi;rw[fU _ _ _ _ (by decide),if_neg (by omega)];exact uT B i hi
 ·rw[fU _ _ _ _ (by decide),if_neg (by decide)];exact uU B
 ·rw[fU _ _ _ _ (by decide),if_neg (by decide)];exact uV B
 ·rw[fU _ _ _ _ (by decide),if_neg (by decide)];exact kX B
 ·rw[fU _ _ _ _ (by decide),if_pos rfl]
attribute [irreducible] dJ
def dV{α:Type}(w:World)(inn:Nat→Prop)(v:Value)(enc:α→List Value)(xs:List α):Prop:=au w v 1 enc xs∧∀ a n c,v=.slice (some a) n c→inn a.block
abbrev Iu:=Option Addr×Nat×Nat
abbrev xU(x:Iu):List Value:=[.slice x.1 x.2.1 x.2.2]
theorem Ec:dX xU 1:=⟨fun _=>rfl,fun x u hu=>by simp at hu;subst hu;rfl⟩
def pW{α:Type}(w:World)(base E:Nat)(inn:Nat→Prop)(enc:α→List Value)(v:Value)(L:List (List α)):Prop :=
 ∃ rows:List Iu,Own w base E 1 xU v rows∧rows.length=L.length∧∀ i (h1:i<rows.length) (h2:i<L.length),∃ a c,rows[i]=(a,L[i].length,c)∧dV w inn (.slice a L[i].length c) enc L[i]
section
variable {α:Type} {w w':World} {inn Jw:Nat→Prop} {v:Value} {enc:α→List Value} {xs:List α}
theorem au.Gi{size:Nat}{a:Option Addr}{n c:Nat}(h:au w (.slice a n c) size enc xs)(hb:∀ ad,a=some ad→ad.block<w.heap.size→w'.heap[ad.block]?=w.heap[ad.block]?):au w' (.slice a n c) size enc xs:=by
 obtain⟨a',b,o,cap,hv,hl,hc,ha,hx⟩:=h
 refine⟨a',b,o,cap,hv,hl,hc,ha,fun i hi j u hu=>?_⟩
 have h1:=hx i hi j u hu
 have h2:b<w.heap.size:=World.block_lt_of_cell? w _ h1
 rcases ha with e | ⟨e,_⟩
 ·rw[←h1]
  refine World.cell?_of_block (hb ⟨b,o,none⟩ ?_ h2)
  rw[(Value.slice.inj hv).1];exact e
 ·subst e;simp at hi
theorem dV.same(h:dV w inn v enc xs)(hb:∀ b,inn b→b<w.heap.size→w'.heap[b]?=w.heap[b]?)(hi:∀ b,inn b→Jw b):dV w' Jw v enc xs:=by
 obtain⟨h1,h2⟩:=h
 obtain⟨a,c,hv⟩:∃ a c,v=.slice a xs.length c:=by obtain⟨a,_,_,c,hv,_⟩:=h1;exact⟨a,c,hv⟩
 subst hv
 exact⟨h1.Gi fun ad e hlt=>hb _ (h2 ad _ _ (by rw[e])) hlt,fun a' n c' e=>hi _ (h2 a' n c' e)⟩
theorem pW.same{base E:Nat}{L:List (List α)}(h:pW w base E inn enc v L)(hb:∀ b,inn b→b<w.heap.size→w'.heap[b]?=w.heap[b]?)(hi:∀ b,inn b→Jw b)(ho:∀ g,v.ownBlock=some g→w'.heap[g]?=w.heap[g]?):pW w' base E Jw enc v L:=by
 obtain⟨rows,h1,h2,h3⟩:=h
 exact⟨rows,h1.same ho,h2,fun i a b=>by obtain⟨x,c,e,k⟩:=h3 i a b;exact⟨x,c,e,k.same hb hi⟩⟩
theorem pW.snoc{base E:Nat}{L:List (List α)}{v':Value}{x:Iu}{rows:List Iu}(h1:Own w' base E 1 xU v' (rows++[x]))(h2:rows.length=L.length)(h3:∀ i (a:i<rows.length) (b:i<L.length),∃ ad c,rows[i]=(ad,L[i].length,c)∧dV w' inn (.slice ad L[i].length c) enc L[i]){l:List α}{a:Option Addr}{c:Nat}(hx:x=(a,l.length,c))(hl:dV w' inn (.slice a l.length c) enc l):pW w' base E inn enc v' (L++[l]):=by
 refine⟨_,h1,by simp[h2],fun i a' b'=>?_⟩
 by_cases hi:i<rows.length
 ·obtain⟨ad,c',e1,e2⟩:=h3 i hi (by omega)
  refine⟨ad,c',?_,?_⟩
  ·rw[List.getElem_append_left hi,List.getElem_append_left (by omega)];exact e1
  ·rw[List.getElem_append_left (by omega)];exact e2
 ·have hi2:i=rows.length:=by simp at a';omega
  subst hi2
  refine⟨a,c,?_,?_⟩
  ·rw[List.getElem_append_right (Nat.le_refl _)]
   simp[h2,hx]
  ·have:(L++[l])[rows.length]=l:=by rw[List.getElem_append_right (by omega)];simp[h2]
   rw[this];exact hl
end
def setOf(l:List Nat):Nat:=l.foldl (fun T i=>T ||| 1 <<< i) 0
def keyOf(n:Nat)(l:List Nat):List UInt8:=I7 (dH n) (setOf l)
def xW(n:Nat)(l:List Nat):Prop:=∃ S,S<2 ^ n∧l=iG n S
theorem xW.set{n:Nat}{l:List Nat}(h:xW n l):setOf l<2 ^ n∧l=iG n (setOf l):=by
 obtain⟨S,h1,rfl⟩:=h
 have:=acM n S h1
 unfold setOf
 rw[this];exact⟨h1,rfl⟩
theorem abn{n:Nat}{l l':List Nat}(h:xW n l)(h':xW n l')(e:keyOf n l=keyOf n l'):l=l':=by
 obtain⟨h1,h2⟩:=h.set
 obtain⟨h3,h4⟩:=h'.set
 have hn:n≤64*dH n:=by unfold dH;omega
 have hp:2 ^ n≤2 ^ (64*dH n):=Nat.pow_le_pow_right (by decide) hn
 have:=acN (Nat.lt_of_lt_of_le h1 hp) (Nat.lt_of_lt_of_le h3 hp) e
 rw[h2,h4,this]
theorem LC(n:Nat)(l:List Nat)(hl:xW n l):∀ (sets:List (List Nat)),(∀ x∈sets,xW n x)→(sets.map (keyOf n)).idxOf? (keyOf n l)=sets.idxOf? l
 | [],_=>rfl
 | x::sets,h=>by
  rw[List.map_cons,List.idxOf?_cons,List.idxOf?_cons,LC n l hl sets fun y hy=>h y (List.mem_cons_of_mem _ hy)]
  have hx:=h x (List.mem_cons_self ..)
  have:(keyOf n x==keyOf n l)=(x==l):=by
   rw[Bool.eq_iff_iff,beq_iff_eq,beq_iff_eq]
   exact⟨fun e=>abn hx hl e,fun e=>by rw[e]⟩
  rw[this]
end
end Go.Proofs.YtengfapcaaacaaaGreatDoor
