/- The texts of N7, in few letters (mini.py). -/
import Derived.Test.YtengfapcaaacaaaGreatDoorM6
set_option linter.unusedVariables false
set_option linter.unusedSimpArgs false
set_option maxHeartbeats 2000000
namespace Go.Proofs.YtengfapcaaacaaaGreatDoor
section
open Go.RowKit
abbrev jf(k:Int):Value:=.int .i64 k
def valOf(kl:List (Int×Value))(s:Nat):Value:=(look (s:Int) kl).getD (.slice none 0 0)
structure eU{α:Type}(w:World)(mb qB E size:Nat)(enc:α→List Value)(grp:Nat→List α)(kl:List (Int×Value)):Prop where
 mp:aJ w mb jf kl
 own:∀ s,Own w qB E size enc (valOf kl s) (grp s)
 oN:∀ s t,s≠t→∀ g,(valOf kl s).ownBlock=some g→(valOf kl t).ownBlock≠some g
 lt:mb<qB
structure dG(qB mb:Nat)(w w':World):Prop where
 os:w'.os=w.os
 tape:w'.tape=w.tape
 output:w'.output=w.output
 size:w.heap.size≤w'.heap.size
 block:∀ b,b<qB→b≠mb→w'.heap[b]?=w.heap[b]?
section
variable {α:Type} {w w' w'':World} {mb qB E size:Nat} {enc:α→List Value} {grp:Nat→List α} {kl:List (Int×Value)}
theorem dG.below(h:Below w.heap.size w w')(hb:qB≤w.heap.size):dG qB mb w w':=⟨h.os,h.tape,h.output,h.size,fun b hb' _=>h.block b (by omega)⟩
theorem dG.refl(qB mb:Nat)(w:World):dG qB mb w w:=⟨rfl,rfl,rfl,Nat.le_refl _,fun _ _ _=>rfl⟩
theorem dG.trans(h:dG qB mb w w')(k:dG qB mb w' w''):dG qB mb w w'' :=
 ⟨k.os.trans h.os,k.tape.trans h.tape,k.output.trans h.output,Nat.le_trans h.size k.size,fun b hb hn=>(k.block b hb hn).trans (h.block b hb hn)⟩
theorem dG.box(h:dG qB mb w w'){b T:Nat}{c:Array Value}(hx:Box w b c T)(hb:b<qB)(hn:b≠mb):Box w' b c T:=(h.block b hb hn).trans hx
theorem dG.map(h:dG qB mb w w'){b:Nat}{kl:List (Int×Value)}(hx:aJ w b jf kl)(hb:b<qB)(hn:b≠mb):aJ w' b jf kl:=hx.same (h.block b hb hn)
theorem dG.toBelow{w0:World}(h:dG qB mb w w')(hb:Below w0.heap.size w0 w)(h1:w0.heap.size≤qB)(h2:w0.heap.size≤mb):Below w0.heap.size w0 w' :=
 ⟨h.os.trans hb.os,h.tape.trans hb.tape,h.output.trans hb.output,Nat.le_trans hb.size h.size,fun b hb'=>(h.block b (by omega) (by omega)).trans (hb.block b hb')⟩
theorem dG.grown{v:Value}{xs:List α}(h:dG qB mb w w')(hown:Own w' qB E size enc v xs)(hg:w'.grownBy w'' v.ownBlock)(hb:qB≤w'.heap.size):dG qB mb w w'' :=
 h.trans ⟨hg.os,hg.tape,hg.output,hg.size,fun b hb' _=>hg.block b (by omega) (by
  obtain⟨a,cap,rfl,_,_,hh⟩:=hown
  rcases hh with⟨rfl,_⟩ | ⟨g,cur,rfl,hbg,_⟩
  ·simp[Value.ownBlock]
  ·simp[Value.ownBlock];omega)⟩
theorem dG.put(h:dG qB mb w w')(ho:∀ i,i≠mb→w''.heap[i]?=w'.heap[i]?)(hs:w''.heap.size=w'.heap.size)(hB:∀ B,B≤mb→Below B w' w''):dG qB mb w w'' :=
 h.trans ⟨(hB 0 (Nat.zero_le _)).os,(hB 0 (Nat.zero_le _)).tape,(hB 0 (Nat.zero_le _)).output,Nat.le_of_eq hs.symm,fun b _ hn=>ho b hn⟩
theorem eU.kept(h:eU w mb qB E size enc grp kl)(hb:Below w.heap.size w w'):eU w' mb qB E size enc grp kl:=⟨h.mp.kept hb,fun s=>(h.own s).kept hb,h.oN,h.lt⟩
theorem eU.new(w:World)(mb qB E size:Nat)(enc:α→List Value)(hm:aJ w mb jf [])(hb:mb<qB):eU w mb qB E size enc (fun _=>[]) [] :=
 ⟨hm,fun s=>Own.nil _ _ _ _ _,fun s t _ g hg=>by simp[valOf,look,Value.ownBlock] at hg,hb⟩
theorem Own.same{v:Value}{xs:List α}(h:Own w qB E size enc v xs)(hb:∀ g,v.ownBlock=some g→w'.heap[g]?=w.heap[g]?):Own w' qB E size enc v xs:=by
 obtain⟨a,cap,hv,hle,hm,hh⟩:=h
 refine⟨a,cap,hv,hle,hm,?_⟩
 rcases hh with hh | ⟨g,cur,ha,hbg,hg,hr⟩
 ·exact .inl hh
 ·refine .inr ⟨g,cur,ha,hbg,(hb g ?_).trans hg,hr⟩
  rw[hv,ha];rfl
theorem Own.blk{v:Value}{xs:List α}(h:Own w qB E size enc v xs){g:Nat}(hg:v.ownBlock=some g):qB≤g∧g<w.heap.size:=by
 obtain⟨a,cap,rfl,_,_,hh⟩:=h
 rcases hh with⟨rfl,_⟩ | ⟨g',cur,rfl,hbg,hx,_⟩
 ·cases hg
 ·cases hg;exact⟨hbg,hx.lt⟩
theorem eU.put(h:eU w mb qB E size enc grp kl)(s:Nat)(y:α){v':Value}(ho:Own w' qB E size enc v' (grp s++[y]))(hg:w.grownBy w' (valOf kl s).ownBlock)(hf:v'.ownBlock=(valOf kl s).ownBlock∨v'.ownBlock=some w.heap.size)
  (hm:aJ w'' mb jf (mD (s:Int) v' kl)) (hs:∀ i,i≠mb→w''.heap[i]?=w'.heap[i]?):eU w'' mb qB E size enc (fun t=>if t=s then grp s++[y] else grp t) (mD (s:Int) v' kl):=by
 have hv:∀ t,valOf (mD (s:Int) v' kl) t=if t=s then v' else valOf kl t:=fun t=>by
  unfold valOf
  rw[DT]
  by_cases e:t=s
  ·rw[if_pos (by omega),if_pos e];rfl
  ·rw[if_neg (by omega),if_neg e]
 have hlt:=h.lt
 refine⟨hm,fun t=>?_,fun t u hne g hg1 hg2=>?_,h.lt⟩
 ·rw[hv]
  by_cases e:t=s
  ·rw[if_pos e,if_pos e]
   exact ho.same fun g hgg=>hs g (by have:=(ho.blk hgg).1;omega)
  ·rw[if_neg e,if_neg e]
   have h1:=h.own t
   have h2:Own w' qB E size enc (valOf kl t) (grp t):=h1.same fun g hgg=>hg.block g (h1.blk hgg).2 fun e2=>h.oN t s e g hgg e2.symm
   exact h2.same fun g hgg=>hs g (by have:=(h2.blk hgg).1;omega)
 ·rw[hv] at hg1 hg2
  have fresh:∀ t,t≠s→∀ g,v'.ownBlock=some g→(valOf kl t).ownBlock≠some g:=fun t ht g h1 h2=>by
   rcases hf with e | e
   ·exact h.oN t s ht g h2 (e▸h1)
   ·rw[e] at h1
    cases h1
    have:=((h.own t).blk h2).2
    omega
  by_cases e1:t=s
  ·rw[if_pos e1] at hg1
   rw[if_neg (fun e=>hne (e1.trans e.symm))] at hg2
   exact fresh u (fun e=>hne (e1.trans e.symm)) g hg1 hg2
  ·rw[if_neg e1] at hg1
   by_cases e2:u=s
   ·rw[if_pos e2] at hg2
    exact fresh t e1 g hg2 hg1
   ·rw[if_neg e2] at hg2
    exact h.oN t u hne g hg1 hg2
theorem eU.others{β:Type}{mb' E' size':Nat}{enc':β→List Value}{v:Value}{xs:List β}(h:eU w mb qB E size enc grp kl)(hown:Own w qB E' size' enc' v xs)(hg:w.grownBy w' v.ownBlock)(hne:E'≠E)(hs:∀ i,i≠mb'→w''.heap[i]?=w'.heap[i]?)(hmb:mb'<qB)(hmm:mb≠mb') :
  eU w'' mb qB E size enc grp kl:=by
 have hvb:∀ g,v.ownBlock=some g→qB≤g:=fun g hgg=>(hown.blk hgg).1
 refine⟨h.mp.same ((hs mb hmm).trans (hg.block mb h.mp.lt fun e=>by have:=hvb _ e.symm;have:=h.lt;omega)),fun s=>?_,h.oN,h.lt⟩
 have h1:=(h.own s).lS hown hg hne.symm
 exact h1.same fun g hgg=>hs g (by have:=(h1.blk hgg).1;omega)
end
end
section
open Go.RowKit
theorem Xa{α:Type}{P:Program}{w:World}{qB E size:Nat}{enc:α→List Value}{v:Value}{xs:List α}{t ty:TypeId}{z:Value}{bytes:Nat}(hE:dQ P t E z size bytes)(he:fB enc size)
  (hown:Own w qB E size enc v xs) (ad:Addr) (c:Nat) (y:α) (hnews:∀ j u,(enc y)[j]?=some u→w.cell? (ad.add j)=some u)
  (h63:xs.length+1≤maxLen) (hbytes:(xs.length+1)*bytes≤140737488355328) {v':Value} {w':World} (hr:(Builtin.append_ #[t,t] ty #[v,.slice (some ad) 1 c]).run P w=.ok v' w'):Own w' qB E size enc v xs:=by
 obtain⟨i,hi,hz,hsz,hby⟩:=hE.info
 subst hsz
 have hl:(enc y).length=1*i.size:=by rw[he.len,Nat.one_mul]
 have hsmall:xs.length+1≤9223372036854775807:=by simp only[maxLen] at h63;omega
 have hown0:=hown
 obtain⟨a,cap,rfl,hle,hm,hh⟩:=hown
 rcases hh with⟨rfl,rfl⟩ | ⟨g,cur,rfl,hbg,hg,hcs,hx⟩
 ·have hn:xs.length=0:=by omega
  rw[hn] at hr
  rw[run_append_nil (P:=P) w t ty E i z hE.slice hi hz ad 1 c (enc y) hl hnews (by omega) (by omega) (by rw[hby];rw[hn] at hbytes;omega)] at hr
  cases hr
  exact hown0.kept ((Below.refl _ w).drew.alloc (Nat.le_refl _) _)
 ·by_cases hroom:xs.length+1≤cap
  ·have hfit:xs.length*i.size+(enc y).length≤cur.size:=by rw[hl,hcs,←Nat.add_mul];exact Nat.mul_le_mul_right _ hroom
   rw[run_append_room (P:=P) w t ty E i hE.slice hi g xs.length cap cur hg ad 1 c (enc y) hl hnews (he.one y) hroom hfit] at hr
   cases hr
   refine⟨_,cap,rfl,hle,hm,.inr ⟨g,_,rfl,hbg,setRow_heap w g cur _ E _ hg,?_,fun j hj k hk=>?_⟩⟩
   ·simp only[List.size_toArray,List.length_append,List.length_take,List.length_drop,Array.length_toList]
    omega
   ·have h1:j*i.size+k<xs.length*i.size:=by
     have:(j+1)*i.size≤xs.length*i.size:=Nat.mul_le_mul_right _ hj
     rw[Nat.succ_mul] at this;omega
    have h2:xs.length*i.size≤cur.size:=by omega
    have hlen:(cur.toList.take (xs.length*i.size)).length=xs.length*i.size:=by rw[List.length_take,Array.length_toList];exact Nat.min_eq_left h2
    rw[←hx j hj k hk,List.getElem?_toArray,List.append_assoc,List.getElem?_append_left (by rw[hlen];exact h1),List.getElem?_take,if_pos h1,Array.getElem?_toList]
  ·have holds:=(hown0.rV he).cells (g:=g) rfl
   rw[run_append_grow (P:=P) w t ty E i z hE.slice hi hz ⟨g,0,none⟩ xs.length cap (xs.flatMap enc) (by rw[nY he.len]) holds ad 1 c (enc y) hl hnews (by omega) (by omega) (growslice_fits (by omega) (by rw[hby];exact hbytes))] at hr
   cases hr
   exact hown0.kept ((Below.refl _ w).drew.alloc (Nat.le_refl _) _)
theorem UF{α:Type}{P:Program}{w:World}{qB E size:Nat}{enc:α→List Value}{v v2:Value}{xs:List α}{t ty:TypeId}{z:Value}{bytes:Nat}(hE:dQ P t E z size bytes)(he:fB enc size)
  (hown:Own w qB E size enc v xs) (ad:Addr) (c:Nat) (y:α) (hown2:Own w qB E size enc v2 (xs++[y])) (hnews:∀ j u,(enc y)[j]?=some u→w.cell? (ad.add j)=some u)
  (h63:xs.length+1≤maxLen) (hbytes:(xs.length+1)*bytes≤140737488355328) {v':Value} {w':World} (hr:(Builtin.append_ #[t,t] ty #[v,.slice (some ad) 1 c]).run P w=.ok v' w'):Own w' qB E size enc v2 (xs++[y]):=by
 obtain⟨i,hi,hz,hsz,hby⟩:=hE.info
 subst hsz
 have hl:(enc y).length=1*i.size:=by rw[he.len,Nat.one_mul]
 have hsmall:xs.length+1≤9223372036854775807:=by simp only[maxLen] at h63;omega
 have hown0:=hown
 obtain⟨a,cap,rfl,hle,hm,hh⟩:=hown
 rcases hh with⟨rfl,rfl⟩ | ⟨g,cur,rfl,hbg,hg,hcs,hx⟩
 ·have hn:xs.length=0:=by omega
  rw[hn] at hr
  rw[run_append_nil (P:=P) w t ty E i z hE.slice hi hz ad 1 c (enc y) hl hnews (by omega) (by omega) (by rw[hby];rw[hn] at hbytes;omega)] at hr
  cases hr
  exact hown2.kept ((Below.refl _ w).drew.alloc (Nat.le_refl _) _)
 ·by_cases hroom:xs.length+1≤cap
  ·have hfit:xs.length*i.size+(enc y).length≤cur.size:=by rw[hl,hcs,←Nat.add_mul];exact Nat.mul_le_mul_right _ hroom
   rw[run_append_room (P:=P) w t ty E i hE.slice hi g xs.length cap cur hg ad 1 c (enc y) hl hnews (he.one y) hroom hfit] at hr
   cases hr
   obtain⟨a2,cap2,rfl,hle2,hm2,hh2⟩:=hown2
   refine⟨a2,cap2,rfl,hle2,hm2,?_⟩
   rcases hh2 with hh2 | ⟨g2,QT,ha2,agE,hg2,hcs2,hx2⟩
   ·exact .inl hh2
   ·by_cases hgg:g2=g
    ·subst hgg
     have hcc:QT=cur:=by have h1:w.heap[g2]?=_:=hg2;have h2:w.heap[g2]?=_:=hg;rw[h1] at h2;simpa using h2
     subst hcc
     refine .inr ⟨g2,_,ha2,agE,setRow_heap w g2 QT _ E _ hg2,?_,fun j hj k hk=>?_⟩
     ·simp only[List.size_toArray,List.length_append,List.length_take,List.length_drop,Array.length_toList]
      omega
     ·have h2:xs.length*i.size≤QT.size:=by omega
      have hlen:(QT.toList.take (xs.length*i.size)).length=xs.length*i.size:=by rw[List.length_take,Array.length_toList];exact Nat.min_eq_left h2
      rw[List.length_append,List.length_singleton] at hj
      rw[List.getElem?_toArray,List.append_assoc]
      by_cases hjn:j<xs.length
      ·have h1:j*i.size+k<xs.length*i.size:=by
        have:(j+1)*i.size≤xs.length*i.size:=Nat.mul_le_mul_right _ hjn
        rw[Nat.succ_mul] at this;omega
       rw[←hx2 j (by rw[List.length_append,List.length_singleton];omega) k hk,List.getElem?_append_left (by rw[hlen];exact h1),List.getElem?_take,if_pos h1,Array.getElem?_toList]
      ·obtain rfl:j=xs.length:=by omega
       rw[List.getElem?_append_right (by rw[hlen];omega),hlen,List.getElem?_append_left (by rw[hl];omega)]
       rw[show xs.length*i.size+k - xs.length*i.size=k by omega]
       congr 2
       simp
    ·exact .inr ⟨g2,QT,ha2,agE,(setRow_other w g g2 _ hgg).trans hg2,hcs2,hx2⟩
  ·have holds:=(hown0.rV he).cells (g:=g) rfl
   rw[run_append_grow (P:=P) w t ty E i z hE.slice hi hz ⟨g,0,none⟩ xs.length cap (xs.flatMap enc) (by rw[nY he.len]) holds ad 1 c (enc y) hl hnews (by omega) (by omega) (growslice_fits (by omega) (by rw[hby];exact hbytes))] at hr
   cases hr
   exact hown2.kept ((Below.refl _ w).drew.alloc (Nat.le_refl _) _)
structure iE{α:Type}(qB E size:Nat)(enc:α→List Value)(v:Value)(xs:List α)(y:α)(w w':World):Prop where
 os:w'.os=w.os
 tape:w'.tape=w.tape
 output:w'.output=w.output
 grow:w.heap.size≤w'.heap.size
 block:∀ b,b<w.heap.size→v.ownBlock≠some b→w'.heap[b]?=w.heap[b]?
 own:Own w qB E size enc v xs→Own w' qB E size enc v xs
 Jq:∀ v2,Own w qB E size enc v2 (xs++[y])→Own w' qB E size enc v2 (xs++[y])
instance iq {α:Type} (qB E size:Nat) (enc:α→List Value) (v:Value) (xs:List α) (y:α):jw (iE qB E size enc v xs y) :=
 ⟨fun _=>⟨rfl,rfl,rfl,Nat.le_refl _,fun _ _ _=>rfl,id,fun _=>id⟩,
  fun _ _ _ h k=>⟨k.os.trans h.os,k.tape.trans h.tape,k.output.trans h.output,Nat.le_trans h.grow k.grow,fun b hb hn=>(k.block b (Nat.lt_of_lt_of_le hb h.grow) hn).trans (h.block b hb hn),fun ho=>k.own (h.own ho),fun v2 ho=>k.Jq v2 (h.Jq v2 ho)⟩,
  fun _ _ h=>⟨h.os,h.tape,h.output,h.size,fun b hb _=>h.block b hb,fun ho=>ho.kept h,fun _ ho=>ho.kept h⟩⟩
theorem Cm{α:Type}{w:World}{qB E size:Nat}{enc:α→List Value}{v:Value}{xs:List α}{P:Program}{o:Oper}{a:Act}{K:Act→World→Prop}{Q:Exit→Act→World→Prop}(s x:Operand)(t:TypeId)
  (ho:o.op=.call { callee:=.builtin .append,args:=#[s,x],argTypes:=#[t,t] }) {z:Value} {bytes:Nat} (hE:dQ P t E z size bytes) (he:fB enc size)
  (hs:a.eval s=v) (hown:Own w qB E size enc v xs) (ad:Addr) (c:Nat) (y:α) (hx:a.eval x=.slice (some ad) 1 c) (hnews:∀ j u,(enc y)[j]?=some u→w.cell? (ad.add j)=some u)
  (h63:xs.length+1≤maxLen) (hbytes:(xs.length+1)*bytes≤140737488355328) (hbase:qB≤w.heap.size)
  (h:∀ a' cap' w',Own w' qB E size enc (.slice a' (xs.length+1) cap') (xs++[y])→w.grownBy w' v.ownBlock→((Value.slice a' (xs.length+1) cap').ownBlock=v.ownBlock∨(Value.slice a' (xs.length+1) cap').ownBlock=some w.heap.size)→iE qB E size enc v xs y w w'→K (a.put o.dst (.slice a' (xs.length+1) cap')) w'):Oper.wp P o a w K Q:=by
 obtain⟨i,hi,hz,hsz,hby⟩:=hE.info
 obtain⟨v',w',hr,h2,h3,_⟩:=run_append_own (P:=P) w qB t o.type E i z size bytes hE.slice hi hz hsz hby hE.Hl hE.pos v xs.length (xs.flatMap enc) (hown.rV he) ad 1 c (enc y) (by rw[he.len,Nat.one_mul]) hnews (he.one y) h63 hbytes hbase
 have hb:=zV (c:=c) hE.slice hi hz hsz hby (hown.rV he) (by rw[he.len,Nat.one_mul]) hnews (he.one y) (Nat.succ_pos 0) h63 hbytes hr
 have hold:=Xa hE he hown ad c y hnews h63 hbytes hr
 have ajG:=fun v2 ho2=>UF (v2:=v2) hE he hown ad c y ho2 hnews h63 hbytes hr
 have hr':Own w' qB E size enc v' (xs++[y]):=by
  refine Own.ofRow ?_ he
  rw[List.length_append,List.flatMap_append]
  simpa using h2
 obtain⟨a',cap',rfl⟩:=hr'.form
 have e:(xs++[y]).length=xs.length+1:=by simp
 rw[e] at hr' hb hr
 have hk:=h a' cap' w' hr' h3 hb ⟨h3.os,h3.tape,h3.output,h3.size,fun b hb hn=>h3.block b hb fun e=>hn e.symm,fun _=>hold,ajG⟩
 unfold Oper.wp execOp
 simp only[ho,resolve,invoke,builtin,Sem.run_bind,Sem.run_pure,Result.andThen_ok,List.map_toArray,List.map_cons,List.map_nil,hs,hx,hr]
 exact hk
section
variable {α:Type} {qB E size:Nat} {enc:α→List Value} {v:Value} {xs:List α} {y:α} {w w':World}
theorem iE.box(h:iE qB E size enc v xs y w w'){b T:Nat}{c:Array Value}(hx:Box w b c T)(hn:v.ownBlock≠some b):Box w' b c T:=(h.block b hx.lt hn).trans hx
theorem iE.map(h:iE qB E size enc v xs y w w'){b:Nat}{kl:List (Int×Value)}(hx:aJ w b jf kl)(hn:v.ownBlock≠some b):aJ w' b jf kl:=hx.same (h.block b hx.lt hn)
theorem eU.Bd{mb:Nat}{grp:Nat→List α}{kl:List (Int×Value)}{s:Nat}(h:eU w mb qB E size enc grp kl)(k:iE qB E size enc (valOf kl s) (grp s) y w w'):eU w' mb qB E size enc grp kl:=by
 have hlt:=h.lt
 refine⟨k.map h.mp fun e=>by have:=((h.own s).blk e).1;omega,fun t=>?_,h.oN,h.lt⟩
 by_cases e:t=s
 ·subst e;exact k.own (h.own t)
 ·exact(h.own t).same fun g hg=>k.block g ((h.own t).blk hg).2 fun e2=>h.oN t s e g hg e2
theorem iE.aeg{mb:Nat}{w0:World}{grp:Nat→List α}{kl:List (Int×Value)}{s:Nat}(k:iE qB E size enc (valOf kl s) (grp s) y w w')(h0:eU w0 mb qB E size enc grp kl)(hb:qB≤w.heap.size):dG qB mb w w' :=
 ⟨k.os,k.tape,k.output,k.grow,fun b hb' _=>k.block b (by omega) fun e=>by have:=((h0.own s).blk e).1;omega⟩
theorem iE.grownBy(k:iE qB E size enc v xs y w w'):w.grownBy w' v.ownBlock:=⟨k.os,k.tape,k.output,k.grow,fun b hb hn=>k.block b hb fun e=>hn e.symm⟩
theorem eU.aeh{β:Type}{mb E' size':Nat}{enc':β→List Value}{grp:Nat→List β}{kl:List (Int×Value)}(h:eU w mb qB E' size' enc' grp kl)(ho:Own w qB E size enc v xs)(k:iE qB E size enc v xs y w w')(hne:E'≠E):eU w' mb qB E' size' enc' grp kl:=by
 have hlt:=h.lt
 refine⟨k.map h.mp fun e=>by have:=(ho.blk e).1;omega,fun t=>?_,h.oN,h.lt⟩
 refine(h.own t).same fun g hg=>k.block g ((h.own t).blk hg).2 fun e2=>?_
 obtain⟨_,c1,b1⟩:=(h.own t).block g hg
 obtain⟨_,c2,b2⟩:=ho.block g e2
 exact hne (b1.lM b2)
theorem eU.afE{β:Type}{mb mb' E' size':Nat}{enc':β→List Value}{grp:Nat→List β}{kl:List (Int×Value)}(h:eU w mb qB E' size' enc' grp kl)(ho:∀ i,i≠mb'→w'.heap[i]?=w.heap[i]?)(hb:mb'<qB)(hne:mb≠mb'):eU w' mb qB E' size' enc' grp kl :=
 ⟨h.mp.same (ho mb hne),fun t=>(h.own t).same fun g hg=>ho g (by have:=((h.own t).blk hg).1;omega),h.oN,h.lt⟩
theorem eU.Di{mb:Nat}{w0:World}{grp:Nat→List α}{kl:List (Int×Value)}{s:Nat}{v':Value}(h0:eU w0 mb qB E size enc grp kl)(h:eU w mb qB E size enc (fun t=>if t=s then grp s++[y] else grp t) (mD (s:Int) v' kl))(k:iE qB E size enc (valOf kl s) (grp s) y w w') :
  eU w' mb qB E size enc (fun t=>if t=s then grp s++[y] else grp t) (mD (s:Int) v' kl):=by
 have hlt:=h0.lt
 refine⟨k.map h.mp fun e=>by have:=((h0.own s).blk e).1;omega,fun t=>?_,h.oN,h.lt⟩
 by_cases e:t=s
 ·have h1:=h.own t
  rw[if_pos e] at h1 ⊢
  exact k.Jq _ h1
 ·have h1:=h.own t
  refine h1.same fun g hg=>k.block g (h1.blk hg).2 fun e2=>?_
  have hv:valOf (mD (s:Int) v' kl) t=valOf kl t:=by unfold valOf;rw[DT,if_neg (by omega)]
  rw[hv] at hg
  exact h0.oN t s e g hg e2
end
end
section
open Go.RowKit
structure P9(X X':Nat→Prop)(A B:World)(row:Option Nat):Prop where
 grown:A.grownBy B row
 own:∀ r,row=some r→X r
 new:∀ b,X' b→X b∨(A.heap.size≤b∧b<B.heap.size)
def QU{α:Type}(P:Program)(gf:Nat)(lb:Array Value)(encs:α→Array Value)(Z:Nat→Prop)(S:List α→Prop)(N:Nat)(w:World):Prop :=
 ∀ (l:Nat) (J:List α→(Nat→Prop)→World→Prop) (W:World),Below w.heap.size w W →
  (∀ s X X' A B row,J s X A→P9 X X' A B row→J s X' B) →
  (∀ s X A,J s X A→∀ b,X b→b<A.heap.size) →
  (∀ pre x X W1,J pre X W1→pre.length<N→YieldAt Fence.wide 0 P l (encs x) W1 fun e W'=>e=.returned (.bool true)∧J (pre++[x]) X W'∧W1.heap.size≤W'.heap.size∧∀ b,(X b∨Z b)→W'.heap[b]?=W1.heap[b]?) →
  J [] (fun _=>False) W →
  CallsIn Fence.wide 0 P gf (#[.func (.yield l) #[] #[]]++lb) W fun e W'=>(∃ v,e=.returned v)∧∃ xs X,S xs∧J xs X W'
def Vw{α:Type}(B0:Nat)(I:List α→(Nat→Prop)→World→Prop):Prop :=
 ∀ s X X' A B row,I s X A→A.grownBy B row→(∀ r,row=some r→X r∨(B0≤r∧∃ o:Obj,A.heap[r]?=some o∧o.isCells=false))→(∀ b,X' b→X b∨(A.heap.size≤b∧b<B.heap.size))→I s X' B
def Y8{α:Type}(I:List α→(Nat→Prop)→World→Prop)(Z X:Nat→Prop)(xs:List α)(W:World):Exit→Act→World→Prop
 | .normal,_,W'=>KeepsOthers W W'∧(∀ b,(X b∨Z b)→W'.heap[b]?=W.heap[b]?)∧I xs X W'
 | _,_,_=>False
theorem Xb{α:Type}{P:Program}{g:Operand}{ps:Array Tmp}{assign body:Code}{Q:Exit→Act→World→Prop}{a:Act}{w:World}{gf:Nat}{lb:Array Value}
  (hg:a.eval g=.func (.func gf) #[] lb) (eg:∀ args w,(callFunc gf args).run P w=.ok (.enter gf args) w)
  {encs:α→Array Value} {Z:Nat→Prop} {S:List α→Prop} {N:Nat} {w0:World} (hseq:QU P gf lb encs Z S N w0) (hb0:Below w0.heap.size w0 w) (hZ:∀ b,Z b→b<w.heap.size) (hps:∀ x,(encs x).size=ps.size)
  (I:List α→(Nat→Prop)→World→Prop) (hI:Vw w.heap.size I) (h0:I [] (fun _=>False) w) (a1:α→Act)
  (hassign:∀ (l:Nat) (x:α) (W:World) (K:Act→World→Prop),K (a1 x) W →
   assign.wpIn (Fence.wide.inRound l) 0 P (Exit.then K (fun _ _ _=>False)) { tmps:=(ps.zip (encs x)).foldl (fun t (p,v)=>t.setIfInBounds p v) a.tmps,defers:=[] } W)
  (hbody:∀ (l:Nat) (pre:List α) (x:α) (X:Nat→Prop) (W:World),I pre X W→(∀ b,X b→w.heap.size≤b∧b<W.heap.size)→w.heap.size≤W.heap.size→pre.length<N→body.wpIn (Fence.wide.inRound l) 0 P (Y8 I Z X (pre++[x]) W) (a1 x) W)
  (hdone:∀ (D:Nat) (xs:List α) (X:Nat→Prop) (W:World),w.heap.size≤D→S xs→I xs X W→W.heap[D]?=some (.deferred (some []))→Q .normal { a with defers:={ target:=.collected D,args:=#[] }::a.defers } W) :
  (Code.rangeFunc g ps assign body).wpIn Fence.wide 0 P Q a w:=by
 refine wpIn_rangeFunc ?_
 intro fn hfn
 obtain⟨rec,hrec⟩:∃ rec:LoopState→Option Code→Loop,rec=fun st pe=>{ state:=st,pending:=pe,fn,tmps:=a.tmps,params:=ps,assign,body,defers:=w.heap.size }:=⟨_,rfl⟩
 obtain⟨W1,hW1⟩:∃ W1,(w.alloc (.deferred (some []))).alloc (.loop (rec .ready none))=W1:=⟨_,rfl⟩
 have hL1:W1.heap[w.heap.size+1]?=some (.loop (rec .ready none)):=by
  rw[←hW1];have:=World.alloc_heap_new (w.alloc (.deferred (some []))) (.loop (rec .ready none));rwa[World.size_alloc] at this
 have hK1:W1.heap[w.heap.size]?=some (.deferred (some [])):=by
  rw[←hW1];exact(Below.heap_alloc _ _ _ (by simp)).trans (World.alloc_heap_new w _)
 have hI1:I [] (fun _=>False) W1:=by
  rw[←hW1]
  exact hI _ _ _ _ _ none (hI _ _ _ _ _ none h0 (World.grownBy_alloc w _ none) (fun _ e=>by cases e) (fun _ e=>.inl e)) (World.grownBy_alloc _ _ none) (fun _ e=>by cases e) (fun _ e=>.inl e)
 have hs1:W1.heap.size=w.heap.size+2:=by rw[←hW1];simp
 have hb1:Below w0.heap.size w0 W1:=by
  rw[←hW1];exact hb0.trans ((((Below.refl _ w).alloc (Nat.le_refl _) _).alloc (by simp) _).mono hb0.size)
 refine⟨w.heap.size+1,[{ target:=.collected w.heap.size,args:=#[] }],W1,{ target:=.fn (.func gf) lb,args:=#[.func (.yield (w.heap.size+1)) #[] #[]] },W1,gf,
  #[.func (.yield (w.heap.size+1)) #[] #[]]++lb,W1,?_,?_,?_,?_,(fun h=>by cases h),?_⟩
 ·rw[←hW1,hrec];exact run_enterLoop_outer _ _ _ _ _
 ·simp only[resolve,hg]
  simp[go_sem]
 ·intro f' hf';exact trivial
 ·simp[invoke,go_sem,eg]
 ·refine(hseq (w.heap.size+1)
   (fun pre X W=>I pre X W∧(∀ b,X b→w.heap.size+2≤b∧b<W.heap.size)∧w.heap.size+2≤W.heap.size∧W.heap[w.heap.size+1]?=some (.loop (rec .ready none))∧W.heap[w.heap.size]?=some (.deferred (some [])))
   W1 hb1 ?_ (fun s X A h b hb=>(h.2.1 b hb).2) ?_ ⟨hI1,fun _ h=>h.elim,by omega,hL1,hK1⟩).mono ?_
  ·rintro s X X' A B row ⟨hi,hx,hz,hl,hk⟩ ht
   have hsz:=ht.grown.size
   have hne:∀ k,k<w.heap.size+2→B.heap[k]?=A.heap[k]?:=fun k hk=>ht.grown.block k (by omega) (fun e=>by have:=hx k (ht.own k e.symm);omega)
   refine⟨hI s X X' A B row hi ht.grown (fun r e=>.inl (ht.own r e)) ht.new,fun b hb=>?_,by omega,(hne _ (by omega)).trans hl,(hne _ (by omega)).trans hk⟩
   rcases ht.new b hb with h | ⟨h1,h2⟩
   ·have:=hx b h;exact⟨this.1,by omega⟩
   ·exact⟨by omega,h2⟩
  ·rintro pre x X W ⟨hi,hx,hz,hl,hk⟩ hlen
   have hlt:w.heap.size+1<W.heap.size:=(Array.getElem?_eq_some_iff.1 hl).1
   have hy:=run_yield (P:=P) (args:=encs x) hl (by rw[hrec];exact hps x)
   rw[hrec] at hy
   refine⟨fn,_,assign,body,hy,roundIn_of_wpIn hfn (hassign _ x W _ ⟨_,run_beginRound hl (by rw[hrec]),?_⟩)⟩
   obtain⟨W2,hW2⟩:∃ W2,W.putObj (w.heap.size+1) (.loop { rec .ready none with state:=.busy })=W2:=⟨_,rfl⟩
   have hl2:W2.heap[w.heap.size+1]?=some (.loop { rec .ready none with state:=.busy }):=by rw[←hW2];exact World.putObj_heap_same hlt
   have hk2:W2.heap[w.heap.size]?=some (.deferred (some [])):=by rw[←hW2];exact(World.putObj_heap_other (by omega)).trans hk
   have hz2:W2.heap.size=W.heap.size:=by rw[←hW2];simp
   have ho2:∀ b,b≠w.heap.size+1→W2.heap[b]?=W.heap[b]?:=fun b hb=>by rw[←hW2];exact World.putObj_heap_other hb
   have hi2:I pre X W2:=by
    rw[←hW2]
    exact hI _ _ _ _ _ (some _) hi (grownBy_putObj' W _ _) (fun r e=>by cases e;exact .inr ⟨by omega,_,hl,rfl⟩) (fun b hb=>.inl hb)
   refine wpIn_mono (hW2▸hbody _ pre x X W2 hi2 (fun b hb=>by have:=hx b hb;omega) (by omega) hlen) ?_
   rintro e a3 W3 hp
   cases e with
   | normal =>
    obtain⟨hk3,hs3,hi3⟩:=hp
    have hl3:=hk3.same _ _ (hW2▸hl2) rfl
    have hk4:=hk3.same _ _ (hW2▸hk2) rfl
    have hsz3:=hk3.size
    have hend:=run_endRound (P:=P) none hl3
    have hsz2:=hz2
    rw[←hW2] at hsz2
    refine⟨_,_,hend,rfl,⟨?_,?_,?_,?_,?_⟩,?_,?_⟩
    ·exact hI _ _ _ _ _ (some _) hi3 (grownBy_putObj' W3 _ _) (fun r e=>by cases e;exact .inr ⟨by omega,_,hl3,rfl⟩) (fun b hb=>.inl hb)
    ·intro b hb
     rw[World.putObj_size]
     have:=hx b hb
     exact⟨this.1,by omega⟩
    ·rw[World.putObj_size];omega
    ·rw[World.putObj_heap_same (Array.getElem?_eq_some_iff.1 hl3).1,hrec];rfl
    ·exact(World.putObj_heap_other (by omega)).trans hk4
    ·rw[World.putObj_size];omega
    ·intro b hb
     have hne:b≠w.heap.size+1:=by
      rcases hb with h | h
      ·have:=hx b h;omega
      ·have:=hZ b h;omega
     rw[World.putObj_heap_other hne,hs3 b hb,World.putObj_heap_other hne]
   | _=>exact hp.elim
  ·rintro e W2 ⟨⟨v,rfl⟩,xs,X,hS,hi,hx,hz,hl,hk⟩
   refine⟨none,_,by have:=run_endLoop (P:=P) hl (by rw[hrec];simp);rw[hrec] at this;exact this,hdone _ xs X _ (Nat.le_refl _) hS ?_ ((World.putObj_heap_other (by omega)).trans hk)⟩
   exact hI _ _ _ _ _ (some _) hi (grownBy_putObj' W2 _ _) (fun r e=>by cases e;exact .inr ⟨by omega,_,hl,rfl⟩) (fun b hb=>.inl hb)
end
section
open Go.RowKit
structure lV{α:Type}(w:World)(qB E size:Nat)(enc:α→List Value)(grp:Nat→List α)(vs:Nat→Value):Prop where
 own:∀ s,Own w qB E size enc (vs s) (grp s)
 oN:∀ s t,s≠t→∀ g,(vs s).ownBlock=some g→(vs t).ownBlock≠some g
def jY{β:Type}(f:Nat→β)(s:Nat)(v:β)(t:Nat):β:=if t=s then v else f t
theorem lH{β:Type}(f:Nat→β)(s:Nat)(v:β):jY f s v s=v:=if_pos rfl
theorem kF{β:Type}(f:Nat→β){s t:Nat}(v:β)(h:t≠s):jY f s v t=f t:=if_neg h
section
variable {α:Type} {w w' w'':World} {qB E size:Nat} {enc:α→List Value} {grp:Nat→List α} {vs:Nat→Value}
theorem lV.new(w:World)(qB E size:Nat)(enc:α→List Value):lV w qB E size enc (fun _=>[]) (fun _=>.slice none 0 0) :=
 ⟨fun _=>Own.nil _ _ _ _ _,fun _ _ _ g hg=>by cases hg⟩
theorem lV.same(h:lV w qB E size enc grp vs)(hb:∀ b,qB≤b→b<w.heap.size→w'.heap[b]?=w.heap[b]?):lV w' qB E size enc grp vs :=
 ⟨fun s=>(h.own s).same fun g hg=>hb g ((h.own s).blk hg).1 ((h.own s).blk hg).2,h.oN⟩
theorem lV.kept(h:lV w qB E size enc grp vs)(hb:Below w.heap.size w w'):lV w' qB E size enc grp vs:=h.same fun b _ hl=>hb.block b hl
theorem lV.put(h:lV w qB E size enc grp vs)(s:Nat)(y:α){v':Value}(ho:Own w' qB E size enc v' (grp s++[y]))(hg:w.grownBy w' (vs s).ownBlock)(hf:v'.ownBlock=(vs s).ownBlock∨v'.ownBlock=some w.heap.size) :
  lV w' qB E size enc (jY grp s (grp s++[y])) (jY vs s v'):=by
 have fresh:∀ t,t≠s→∀ g,v'.ownBlock=some g→(vs t).ownBlock≠some g:=fun t ht g h1 h2=>by
  rcases hf with e | e
  ·exact h.oN t s ht g h2 (e▸h1)
  ·rw[e] at h1
   cases h1
   have:=((h.own t).blk h2).2
   omega
 refine⟨fun t=>?_,fun t u hne g hg1 hg2=>?_⟩
 ·by_cases e:t=s
  ·subst e;rw[lH,lH];exact ho
  ·rw[kF _ _ e,kF _ _ e]
   have h1:=h.own t
   exact h1.same fun g hgg=>hg.block g (h1.blk hgg).2 fun e2=>h.oN t s e g hgg e2.symm
 ·by_cases e1:t=s
  ·subst e1
   rw[lH] at hg1
   rw[kF _ _ (fun e=>hne e.symm)] at hg2
   exact fresh u (fun e=>hne e.symm) g hg1 hg2
  ·rw[kF _ _ e1] at hg1
   by_cases e2:u=s
   ·subst e2
    rw[lH] at hg2
    exact fresh t e1 g hg2 hg1
   ·rw[kF _ _ e2] at hg2
    exact h.oN t u hne g hg1 hg2
theorem lV.Bd{y:α}{s:Nat}(h:lV w qB E size enc grp vs)(k:iE qB E size enc (vs s) (grp s) y w w'):lV w' qB E size enc grp vs:=by
 refine⟨fun t=>?_,h.oN⟩
 by_cases e:t=s
 ·subst e;exact k.own (h.own t)
 ·exact(h.own t).same fun g hg=>k.block g ((h.own t).blk hg).2 fun e2=>h.oN t s e g hg e2
theorem lV.Di{w0:World}{y:α}{s:Nat}{v':Value}(h0:lV w0 qB E size enc grp vs)(h:lV w qB E size enc (jY grp s (grp s++[y])) (jY vs s v'))(k:iE qB E size enc (vs s) (grp s) y w w') :
  lV w' qB E size enc (jY grp s (grp s++[y])) (jY vs s v'):=by
 refine⟨fun t=>?_,h.oN⟩
 have h1:=h.own t
 by_cases e:t=s
 ·subst e
  have e1:jY grp t (grp t++[y]) t=grp t++[y]:=lH _ _ _
  have e2:jY vs t v' t=v':=lH _ _ _
  rw[e1,e2] at h1 ⊢
  exact k.Jq _ h1
 ·refine h1.same fun g hg=>k.block g (h1.blk hg).2 fun e2=>?_
  rw[kF _ _ e] at hg
  exact h0.oN t s e g hg e2
theorem lV.Xc(h:lV w qB E size enc grp vs){s b:Nat}(hb:b<qB∨w.heap.size≤b):(vs s).ownBlock≠some b:=fun e=>by
 have:=(h.own s).blk e;omega
end
def vG(n:Nat)(vs:Nat→Value):Array Value:=((List.range n).map vs).toArray
theorem Bg(n:Nat)(vs:Nat→Value):(vG n vs).size=n:=by unfold vG;simp
theorem xu{n:Nat}{vs:Nat→Value}{i:Nat}(h:i<n):(vG n vs)[i]?=some (vs i):=by unfold vG;simp[h]
theorem ab6(n:Nat)(vs:Nat→Value)(s:Nat)(v:Value):(vG n vs).setIfInBounds s v=vG n (jY vs s v):=by
 apply Array.ext_getElem?
 intro i
 by_cases hi:i<n
 ·rw[xu hi,Array.getElem?_setIfInBounds,Bg,xu hi]
  by_cases e:s=i
  ·subst e;rw[if_pos rfl,if_pos hi,lH]
  ·rw[if_neg e,kF _ _ (fun h=>e h.symm)]
 ·rw[Array.getElem?_eq_none (by rw[Array.size_setIfInBounds,Bg];omega),Array.getElem?_eq_none (by rw[Bg];omega)]
theorem QV(n:Nat)(vs:Nat→Value)(s:Nat)(v:Value)(h:n≤s):vG n (jY vs s v)=vG n vs:=by
 unfold vG
 congr 1
 refine List.map_congr_left fun i hi=>?_
 have:=List.mem_range.1 hi
 exact kF _ _ (by omega)
end
section
open Go.RowKit Go.Shelf
attribute [local go_sem] Oper.semAt_some
def Tab(w:World):Prop:=∀ j,j<64→w.cell? ⟨1,j,none⟩=some (.int .u8 (Lib.deBruijn64tab.getD j 0))
theorem Tab.block{w:World}(h:Tab w):∃ o,w.heap[1]?=some o∧o.isCells=true:=cells_of_cell (h 0 (by decide))
theorem Tab.H6{X:Nat→Prop}{w w':World}(h:Tab w)(hx:¬ X 1)(hk:aQ X w w'):Tab w':=fun j hj=>hk.cell hx (h j hj)
theorem Tab.kept{w w':World}(h:Tab w)(hb:Below w.heap.size w w'):Tab w':=h.H6 (X:=fun _=>False) id (aQ.below hb)
theorem Tab.pos{w:World}(h:Tab w):1<w.heap.size:=by obtain⟨o,ho,_⟩:=h.block;exact(Array.getElem?_eq_some_iff.1 ho).1
theorem agF(x a:Nat)(hx:x<18446744073709551616)(hx0:x≠0)(hlow:x &&& (18446744073709551616 - x)=a) :
  IntKind.u64.wrap (bits BinOp.and IntKind.u64 (x:Int) (IntKind.u64.wrap (-(x:Int)))*285870213051353865) / 288230376151711744=((a*285870213051353865 % 18446744073709551616 / 288230376151711744:Nat):Int):=by
 have e1:IntKind.u64.wrap (-(x:Int))=((18446744073709551616 - x:Nat):Int):=by rw[IntKind.wrap_u64];omega
 rw[e1,bits_and_u64_nat x _ hx (by omega),hlow,IntKind.wrap_u64]
 omega
theorem tz64_core(x k idx:Nat)(w:World)(hx0:((x:Int)==0)=false)
  (key:IntKind.u64.wrap (bits BinOp.and IntKind.u64 (x:Int) (IntKind.u64.wrap (-(x:Int)))*285870213051353865) / 288230376151711744=(idx:Int))
  (hi:idx<64) (hcell:w.cell? ⟨1,idx,none⟩=some (.int .u8 k)) (hk:k<64) :
  Calls Tryz.prog 205 #[.int .u64 x] w fun e w'=>e=.returned (.int .i64 k)∧w'=w:=by
 go_enter Tryz.func205,Tryz.ntmps205
 go_wp2_with (simp only[key])
 go_ret
 exact⟨rfl,rfl⟩
theorem agG(x:Nat)(h0:x≠0)(hx:x<18446744073709551616)(w:World)(hT:Tab w) :
  Calls Tryz.prog 205 #[.int .u64 x] w fun e w'=>e=.returned (.int .i64 (Lib.ctz 64 x:Nat))∧w'=w:=by
 obtain⟨hlow,hk⟩:=Lib.lowest_bit 64 x h0 hx
 obtain⟨hi,htab⟩:=Lib.deBruijn64_at _ hk
 have hcell:=hT _ hi
 rw[htab] at hcell
 exact tz64_core x _ _ w (by simp;omega) (agF x _ hx h0 hlow) hi hcell hk
abbrev QW(x:Nat):Array Value:=#[.int .u8 x]
def afF(X:Nat→Prop)(J:List Nat→World→Prop)(s:au)(W wr:World)(i:Value):Prop :=
 ∃ j pre,j≤4∧i=.int .i64 (j:Nat)∧pre++zu s j (4 - j)=elems s∧J pre wr∧aQ X W wr
def ab7(X:Nat→Prop)(J:List Nat→World→Prop)(s:au)(j:Nat)(W wr:World)(v:Value):Prop :=
 ∃ u pre:_,u<18446744073709551616∧v=.int .u64 (u:Nat)∧pre++(jU j u++zu s (j+1) (3 - j))=elems s∧J pre wr∧aQ X W wr
theorem QX(u:Nat)(h0:u≠0)(h:u<18446744073709551616):bits BinOp.and IntKind.u64 (u:Int) ((u:Int) - 1)=((u &&& (u - 1):Nat):Int):=by
 rw[show((u:Int) - 1)=((u - 1:Nat):Int) by omega,bits_and_u64_nat u _ h (by omega)]
set_option maxRecDepth 100000 in
theorem ab8(n l Bs:Nat)(X:Nat→Prop)(QY:¬ X 1)(J Jx:List Nat→World→Prop)(s:au)
  (hY:∀ pre x W,J pre W→pre.length<(elems s).length→x<256→YieldAt Fence.wide (n - 1) Tryz.prog l (QW x) W fun e W'=>(e=.returned (.bool true)∧J (pre++[x]) W'∧aQ X W W')∨(e=.returned (.bool false)∧Jx (pre++[x]) W'))
  (W:World) (hT:Tab W) (hBs:Box W Bs (bT s) 113) (h0:J [] W) :
  CallsIn Fence.wide n Tryz.prog 204 #[.func (.yield l) #[] #[],.pointer (some ⟨Bs,0,none⟩)] W fun e W'=>(∃ v,e=.returned v)∧((∃ ys,ys=elems s∧J ys W')∨(∃ pre,pre <+: elems s∧Jx pre W')):=by
 obtain⟨c0,c1,c2,c3⟩:=hBs.jv
 refine callsIn_of_wp Tryz.func204 rfl trivial ?_ rfl
 simp only[Tryz.ntmps204,List.size_toArray,List.length_cons,List.length_nil,Nat.reduceAdd,Nat.reduceSub,Array.replicate_succ,Array.replicate_zero,List.push_toArray,List.append_toArray,List.nil_append,List.cons_append]
 gi_wp2
 gi_loopw [6] (fun i wr=>afF X J s W wr i) (fun i _=>4 - (intOf i).toNat)
 case atStart=>exact⟨0,[],by omega,rfl,by rw[List.nil_append];exact(Ir s).symm,h0,aQ.refl _ _⟩
 case round =>
  obtain⟨j,pre,hj,rfl,he,wJ,hkr⟩:=hrel
  by_cases hlt:j<4
  ·have gw:=Bc s j hlt
   have hdj:decide ((j:Int)<4)=true:=decide_eq_true (by omega)
   rw[show 4 - j=(3 - j)+1 by omega,zu] at he
   have hu:=word_lt s j
   generalize word s j=u0 at *
   gi_wp2
   gi_loopw [4] (fun v wr=>ab7 X J s j W wr v) (fun v _=>(intOf v).toNat)
   case atStart=>exact⟨_,pre,hu,rfl,he,wJ,hkr⟩
   case round =>
    obtain⟨u,pre,hu,rfl,he,wJ,hkr⟩:=hrel
    by_cases hz:u=0
    ·subst hz
     rw[jU,Iq,List.map_nil,List.nil_append] at he
     gi_wp2
     exact⟨⟨j+1,pre,hlt,by simp,by rw[show 4 - (j+1)=3 - j by omega];exact he,wJ,hkr⟩,by simp[intOf];omega⟩
    ·have hne:((u:Int) != 0)=true:=by simp;omega
     obtain⟨hls,hk,hdec⟩:=Qr u hz hu
     have hand:=QX u hz hu
     have zW:jU j u=(64*j+Lib.ctz 64 u)::jU j (u &&& (u - 1)):=by rw[jU,hls];rfl
     have hl:pre.length<(elems s).length:=by
      rw[←he,jU,hls];simp
     have FC:=hY pre (64*j+Lib.ctz 64 u) wr wJ hl (by omega)
     rw[show QW (64*j+Lib.ctz 64 u)=#[.int .u8 ((j:Int)*64+(Lib.ctz 64 u:Nat))] by simp only[QW];rw[show((64*j+Lib.ctz 64 u:Nat):Int)=(j:Int)*64+(Lib.ctz 64 u:Nat) by omega]] at FC
     obtain⟨fn,tmps,assign,body,hy,hR⟩:=FC
     have HT:=ah (hT.H6 QY hkr)
     have TZ:=fun w hT=>agG u hz hu w hT
     generalize Lib.ctz 64 u=k at *
     have hdd:∀ k:Nat,(Fence.wide.depth.isSome=true→1≤k):=fun k h=>by cases h
     gi_wp2_with (first | (refine⟨trivial,hdd _,?_⟩;gi_at_call 205;go_must (refine(callsIn_wide.2 (TZ _ HT.out)).mono ?_;rintro e w1 ⟨rfl,rfl⟩)) | (refine⟨hdd _,?_⟩;refine hR.mono ?_;clear hR;rintro e W2 (⟨rfl,hJ2,hk2⟩ | ⟨rfl,hx2⟩)))
     ·refine⟨⟨u &&& (u - 1),pre++[64*j+k],by omega,rfl,?_,hJ2,hkr.trans hk2⟩,by simp[intOf];omega⟩
      rw[←he,zW];simp
     ·refine bodyPost_ret (results_none rfl _ _ _) rfl ?_
      refine⟨⟨_,rfl⟩,.inr ⟨_,?_,hx2⟩⟩
      rw[←he,zW]
      exact⟨jU j (u &&& (u - 1))++zu s (j+1) (3 - j),by simp⟩
  ·obtain rfl:j=4:=by omega
   rw[show zu s 4 (4 - 4)=[] from rfl,List.append_nil] at he
   subst he
   gi_wp2
   go_end0
   exact⟨⟨_,rfl⟩,.inl ⟨_,rfl,wJ⟩⟩
theorem Xd(n Bs:Nat)(X:Nat→Prop)(s:au)(w:World)(QY:¬ X 1)(hT:Tab w)(hBs:Box w Bs (bT s) 113) :
  SeqStopsK Fence.wide n Tryz.prog 204 #[.pointer (some ⟨Bs,0,none⟩)] QW (aQ X) (fun ys=>ys=elems s) (fun pre=>pre <+: elems s) (elems s).length w:=fun l J Jx W hW _ _ hY h0 =>
 ab8 n l Bs X QY J Jx s (fun pre x W hj hl _=>hY pre x W hj hl) W (hT.kept hW) (hBs.kept hW) h0
theorem afG(s:au)(w:World):Calls Tryz.prog 162 #[.agg (bT s)] w fun e w'=>e=.returned (.func (.func 204) #[] #[.pointer (some ⟨w.heap.size,0,none⟩)])∧w'=w.alloc (.cells (bT s) 113):=by
 go_enter Tryz.func162,Tryz.ntmps162
 go_wp2
 go_ret
 exact⟨rfl,rfl⟩
end
section
open Go.RowKit Go.Shelf
attribute [local go_sem] Oper.semAt_some
end
section
open Go.RowKit Go.Shelf
attribute [local go_sem] Oper.semAt_some
theorem Own.cellAt{α:Type}{w:World}{qB E size g n cap:Nat}{enc:α→List Value}{xs:List α}(h:Own w qB E size enc (.slice (some ⟨g,0,none⟩) n cap) xs){i j:Nat}(hi:i<xs.length)(hj:j<size) :
  w.cell? ⟨g,i*size+j,none⟩=(enc xs[i])[j]?∧w.frozen? ⟨g,i*size+j,none⟩=false∧qB≤g∧g<w.heap.size:=by
 obtain⟨a,cap',hv,hle,hm,hh⟩:=h
 obtain⟨rfl,_,_⟩:=Value.slice.inj hv
 rcases hh with⟨h0,_⟩ | ⟨g',cur,ha,hb,hg,hs,hx⟩
 ·cases h0
 ·obtain rfl:g=g':=by simpa using ha
  exact⟨by rw[hg.cell,hx i hi j hj],hg.free _,hb,hg.lt⟩
theorem Own.store1{α:Type}{w:World}{qB E size g n cap:Nat}{enc:α→List Value}{xs:List α}(h:Own w qB E size enc (.slice (some ⟨g,0,none⟩) n cap) xs){i j:Nat}(hi:i<xs.length)(hj:j<size)(y:α)(v:Value)
  (hy:∀ k,k<size→(enc y)[k]?=if k=j then some v else (enc xs[i])[k]?):Own (w.setCell ⟨g,i*size+j,none⟩ v) qB E size enc (.slice (some ⟨g,0,none⟩) n cap) (xs.set i y):=by
 obtain⟨a,cap',hv,hle,hm,hh⟩:=h
 obtain⟨rfl,hn,rfl⟩:=Value.slice.inj hv
 rcases hh with⟨h0,_⟩ | ⟨g',cur,ha,hb,hg,hs,hx⟩
 ·cases h0
 ·obtain rfl:g=g':=by simpa using ha
  refine⟨_,cap,by rw[List.length_set,hn],by rwa[List.length_set],hm,.inr ⟨g,_,rfl,hb,hg.set _ _,by simpa using hs,fun i' hi' k hk=>?_⟩⟩
  rw[List.length_set] at hi'
  have hlt:i*size+j<cur.size:=by rw[hs];exact Nat.lt_of_lt_of_le (Nat.add_lt_add_left hj _) (by rw[←Nat.succ_mul];exact Nat.mul_le_mul_right _ (by omega))
  rw[Array.getElem?_setIfInBounds]
  by_cases e:i=i'
  ·subst e
   rw[List.getElem_set_self,hy k hk]
   by_cases e2:k=j
   ·subst e2;rw[if_pos rfl,if_pos hlt,if_pos rfl]
   ·rw[if_neg (by omega),if_neg e2,hx i hi k hk]
  ·rw[List.getElem_set_ne e,if_neg,hx i' hi' k hk]
   intro e2
   rcases Nat.lt_or_gt_of_ne e with h1 | h1
   ·have:=Nat.mul_le_mul_right size (show i+1≤i' by omega);rw[Nat.succ_mul] at this;omega
   ·have:=Nat.mul_le_mul_right size (show i'+1≤i by omega);rw[Nat.succ_mul] at this;omega
end
section
open Go.RowKit
end
section
open Go.RowKit
end
section
open Go.RowKit
def ends(s:au)(j:Nat):Bool:=decide (j=255)||!mem s (j+1)
end
section
open Go.RowKit Go.Shelf
attribute [local go_sem] Oper.semAt_some
abbrev qU(x:Nat):Array Value:=#[.int .i64 x]
def ajH(X:Nat→Prop)(J:List Nat→World→Prop)(N m S:Nat)(W wr:World)(i:Value):Prop :=
 ∃ j pre,j≤m∧i=.int .i64 (j:Nat)∧pre++xM S j (m - j)=gQ N S∧J pre wr∧aQ X W wr
def agH(X:Nat→Prop)(J:List Nat→World→Prop)(N m S j:Nat)(W wr:World)(v:Value):Prop :=
 ∃ u pre:_,u<18446744073709551616∧v=.int .u64 (u:Nat)∧pre++(jU j u++xM S (j+1) (m - j - 1))=gQ N S∧J pre wr∧aQ X W wr
set_option maxRecDepth 100000 in
theorem QZ(n l Bq p g N S:Nat)(X:Nat→Prop)(QY:¬ X 1)(hgX:¬ X g)(J Jx:List Nat→World→Prop)(hN:N≤1048576)
  (hY:∀ pre x W,J pre W→pre.length<(gQ N S).length→YieldAt Fence.wide (n - 1) Tryz.prog l (qU x) W fun e W'=>(e=.returned (.bool true)∧J (pre++[x]) W'∧aQ X W W')∨(e=.returned (.bool false)∧Jx (pre++[x]) W'))
  (W:World) (hT:Tab W) (hq:Box W Bq #[.pointer (some ⟨p,0,none⟩)] 315) (hB:fO W p g N S) (h0:J [] W) :
  CallsIn Fence.wide n Tryz.prog 297 #[.func (.yield l) #[] #[],.pointer (some ⟨Bq,0,none⟩)] W fun e W'=>(∃ v,e=.returned v)∧((∃ ys,ys=gQ N S∧J ys W')∨(∃ pre,pre <+: gQ N S∧Jx pre W')):=by
 have c0:W.cell? ⟨Bq,0,none⟩=some (.pointer (some ⟨p,0,none⟩)):=hq.cell 0
 have x1:W.cell? ⟨p,1,none⟩=some (.slice (some ⟨g,0,none⟩) (cO N) (cO N)):=hB.box.cell 1
 have hwd:=hB.words
 have hel:=WO N (cO N) S (by unfold cO;omega) hB.lt
 have hm:cO N≤16384:=by unfold cO;omega
 generalize cO N=m at *
 have HWD:=ah hwd;have HEL:=ah hel
 clear hwd hB hq hel
 refine callsIn_of_wp Tryz.func297 rfl trivial ?_ rfl
 simp only[Tryz.ntmps297,List.size_toArray,List.length_cons,List.length_nil,Nat.reduceAdd,Nat.reduceSub,Array.replicate_succ,Array.replicate_zero,List.push_toArray,List.append_toArray,List.nil_append,List.cons_append]
 gi_wp2
 gi_loopw [12] (fun i wr=>ajH X J N m S W wr i) (fun i _=>m - (intOf i).toNat)
 case atStart=>exact⟨0,[],by omega,rfl,by rw[List.nil_append];exact HEL.out.symm,h0,aQ.refl _ _⟩
 case round =>
  obtain⟨j,pre,hj,rfl,he,wJ,hkr⟩:=hrel
  by_cases hlt:j<m
  ·have hbx:=hkr.box hgX HWD.out
   have gw:wr.cell? ⟨g,j,none⟩=some (.int .u64 (dU S j:Nat)):=(hbx.cell _).trans (o8 _ _ _ hlt)
   have hbl:=hbx.lt
   have hdj:decide ((j:Int)<(m:Int))=true:=decide_eq_true (by omega)
   rw[show m - j=(m - j - 1)+1 by omega,xM] at he
   have hu:=D5 S j
   generalize dU S j=u0 at *
   clear hbx
   gi_wp2
   gi_loopw [4] (fun v wr=>agH X J N m S j W wr v) (fun v _=>(intOf v).toNat)
   case atStart=>exact⟨_,pre,hu,rfl,he,wJ,hkr⟩
   case round =>
    clear gw hbl
    obtain⟨u,pre,hu,rfl,he,wJ,hkr⟩:=hrel
    by_cases hz:u=0
    ·subst hz
     rw[jU,Iq,List.map_nil,List.nil_append] at he
     gi_wp2
     exact⟨⟨j+1,pre,hlt,by simp,by rw[show m - (j+1)=m - j - 1 by omega];exact he,wJ,hkr⟩,by simp[intOf];omega⟩
    ·have hne:((u:Int) != 0)=true:=by simp;omega
     obtain⟨hls,hk,hdec⟩:=Qr u hz hu
     have hand:=QX u hz hu
     have zW:jU j u=(64*j+Lib.ctz 64 u)::jU j (u &&& (u - 1)):=by rw[jU,hls];rfl
     have hl:pre.length<(gQ N S).length:=by
      rw[←he,jU,hls];simp
     have FC:=hY pre (64*j+Lib.ctz 64 u) wr wJ hl
     rw[show qU (64*j+Lib.ctz 64 u)=#[.int .i64 ((j:Int)*64+(Lib.ctz 64 u:Nat))] by simp only[qU];rw[show((64*j+Lib.ctz 64 u:Nat):Int)=(j:Int)*64+(Lib.ctz 64 u:Nat) by omega]] at FC
     obtain⟨fn,tmps,assign,body,hy,hR⟩:=FC
     have HT:=ah (hT.H6 QY hkr)
     have TZ:=fun w hT=>agG u hz hu w hT
     generalize Lib.ctz 64 u=k at *
     have hdd:∀ k:Nat,(Fence.wide.depth.isSome=true→1≤k):=fun k h=>by cases h
     gi_wp2_with (first | (refine⟨trivial,hdd _,?_⟩;gi_at_call 205;go_must (refine(callsIn_wide.2 (TZ _ HT.out)).mono ?_;rintro e w1 ⟨rfl,rfl⟩)) | (refine⟨hdd _,?_⟩;refine hR.mono ?_;clear hR;rintro e W2 (⟨rfl,hJ2,hk2⟩ | ⟨rfl,hx2⟩)))
     ·refine⟨⟨u &&& (u - 1),pre++[64*j+k],by omega,rfl,?_,hJ2,hkr.trans hk2⟩,by simp[intOf];omega⟩
      rw[←he,zW];simp
     ·refine bodyPost_ret (results_none rfl _ _ _) rfl ?_
      refine⟨⟨_,rfl⟩,.inr ⟨_,?_,hx2⟩⟩
      rw[←he,zW]
      exact⟨jU j (u &&& (u - 1))++xM S (j+1) (m - j - 1),by simp⟩
  ·obtain rfl:j=m:=by omega
   rw[Nat.sub_self,show xM S j 0=[] from rfl,List.append_nil] at he
   subst he
   gi_wp2
   go_end0
   exact⟨⟨_,rfl⟩,.inl ⟨_,rfl,wJ⟩⟩
theorem Nv(n Bq p g N S:Nat)(X:Nat→Prop)(w:World)(hN:N≤1048576)(QY:¬ X 1)(hgX:¬ X g)(hT:Tab w)(hq:Box w Bq #[.pointer (some ⟨p,0,none⟩)] 315)(hB:fO w p g N S) :
  SeqStopsK Fence.wide n Tryz.prog 297 #[.pointer (some ⟨Bq,0,none⟩)] qU (aQ X) (fun ys=>ys=gQ N S) (fun pre=>pre <+: gQ N S) (gQ N S).length w:=fun l J Jx W hW _ _ hY h0 =>
 QZ n l Bq p g N S X QY hgX J Jx hN (fun pre x W hj hl=>hY pre x W hj hl) W (hT.kept hW) (hq.kept hW) (hB.kept hW) h0
theorem UG(a:Option Addr)(w:World):Calls Tryz.prog 283 #[.pointer a] w fun e w'=>e=.returned (.func (.func 297) #[] #[.pointer (some ⟨w.heap.size,0,none⟩)])∧w'=w.alloc (.cells #[.pointer a] 315):=by
 go_enter Tryz.func283,Tryz.ntmps283
 go_wp2
 go_ret
 exact⟨rfl,rfl⟩
end
section
open Go.RowKit Go.Shelf
attribute [local go_sem] Oper.semAt_some
def agK(b:Nat)(w:World)(pre:List Nat)(W:World):Prop:=Box W (b+1) #[.int .i64 0] 3∧pre=[]∧Below b w W
def agL(b:Nat)(w:World)(c:Code)(pre:List Nat)(W:World):Prop:=c=.ret∧∃ x:Nat,pre=[x]∧Box W (b+1) #[.int .i64 (wrap64 x)] 3∧Below b w W
set_option maxRecDepth 100000 in
theorem Xe(s:au)(w:World)(hT:Tab w):Calls Tryz.prog 115 #[.agg (bT s)] w (aY w (.int .i64 (leastOf s))):=by
 have hle:=Pz s
 have hlt:=fun x=>@abE s x
 have hN:=afG s
 refine(callsIn_wide (n:=6)).1 ?_
 refine callsIn_of_wp_marks Tryz.func115 rfl trivial ?_ rfl
 simp only[Tryz.ntmps115,List.size_toArray,List.length_cons,List.length_nil,Nat.reduceAdd,Nat.reduceSub,Array.replicate_succ,Array.replicate_zero,List.push_toArray,List.append_toArray,List.nil_append,List.cons_append]
 gi_wp2_with (refine⟨trivial,?_⟩;gi_at_call 162;refine(callsIn_wide.2 (hN _)).mono ?_;rintro e w' ⟨rfl,rfl⟩)
 obtain⟨W0,hW0⟩:∃ W0,(((w.alloc (.cells (bT s) 113)).alloc (.cells #[.int .i64 0] 3)).alloc (.cells (bT s) 113))=W0:=⟨_,rfl⟩
 have hB0:Below w.heap.size w W0:=by rw[←hW0];go_grown
 have hsz0:W0.heap.size=w.heap.size+1+1+1:=by rw[←hW0];simp
 have hbt:Box W0 (w.heap.size+1+1) (bT s) 113:=by rw[←hW0];exact Box.new' (by simp) _ _
 have hn0:Box W0 (w.heap.size+1) #[.int .i64 0] 3:=by rw[←hW0];exact(Box.new' (by simp) _ _).alloc _
 rw[hW0]
 clear hW0
 have hpos:=hT.pos
 have hst:=Xd 5 (w.heap.size+1+1) (fun b=>b=w.heap.size+1) s W0 (by omega) (hT.kept hB0) hbt
 refine wpIn_rangeFunc_ownF rfl (by decide) (gf:=204) (lb:=#[.pointer (some ⟨w.heap.size+1+1,0,none⟩)]) rfl trivial (enters_of Tryz.func204 (by kernel_rfl) rfl)
  hst (fun h k=>h.trans k) Hy (Below.refl _ _) (fun _=>rfl)
  (agK w.heap.size w) (agL w.heap.size w)
  (OwnFrom.and (iC _ _ _ _) (OwnFrom.and (fun _ _ _ _ h _ _=>h) (ownFrom_below (Nat.le_refl _) (by omega))))
  (fun _=>fun pre W W' row ⟨h1,x,h2,h3,h4⟩ hg hr=>⟨h1,x,h2,iC _ _ _ (fun _:Unit=>#[.int .i64 (wrap64 x)]) () W W' row h3 hg hr,ownFrom_below (β:=Unit) (Nat.le_refl _) (by omega) () W W' row h4 hg hr⟩) ⟨hn0,rfl,hB0⟩
  (fun x=>{ tmps:=#[.agg (bT s),.pointer (some ⟨w.heap.size,0,none⟩),.pointer (some ⟨w.heap.size+1,0,none⟩),.int .u8 (x:Nat),.agg (bT s),.func (.func 204) #[] #[.pointer (some ⟨w.heap.size+1+1,0,none⟩)],.int .u8 (x:Nat),undef,undef],defers:=[] }) ?assign ?body ?done ?stop
 case assign =>
  intro l x W K hK
  dsimp only[QW]
  go_simp
  gi_wp2
  exact hK
 case body =>
  rintro l pre x W ⟨hb,rfl,hB⟩ hlt
  have c0:=hb.cell 0
  have f0:=hb.free 0
  gi_wp2
  exact⟨KeepsOthers.setCell _ _ _,rfl,x,rfl,hb.set 0 _,hB.setCell (by simp) _⟩
 case done =>
  rintro D ys W hD rfl ⟨hb,hys,hB⟩ hK
  have c0:=hb.cell 0
  have f0:=hb.free 0
  rw[hys] at hle
  gi_wp2
  have hK':=(KeepsOthers.setCell W ⟨w.heap.size+1,0,none⟩ (.int .i64 (-1))).same D _ hK rfl
  refine⟨by simp,.inl ⟨_,_,rfl,run_takeDeferred hK',?_⟩⟩
  have hc5:=(iC W0.heap.size (w.heap.size+1) 3 (fun _:Unit=>#[.int .i64 (-1)]) () _ _ (some D) (hb.set 0 (.int .i64 (-1))) (grownBy_putObj' _ D (.deferred none)) (fun r e=>by cases e;exact⟨by omega,_,hK',rfl⟩)).cell 0
  refine⟨.int .i64 (-1),?_,rfl,(hB.setCell (p:=⟨w.heap.size+1,0,none⟩) (by simp) _).trans (belowK_b (w:=w) (Nat.le_refl _) _ D _ _ (by omega) hK' rfl rfl)⟩
  simp[results,Tryz.f115,go_sem,hc5]
 case stop =>
  rintro D c pre W hD hpre ⟨rfl,x,rfl,hb,hB⟩ hK
  obtain⟨r,hr⟩:=hpre
  have hx:=hlt x (by rw[←hr];simp)
  have hw:wrap64 (x:Int)=(x:Nat):=by unfold wrap64;omega
  rw[hw] at hb
  rw[←hr] at hle
  gi_wp2
  refine⟨by simp,.inl ⟨_,_,rfl,run_takeDeferred hK,?_⟩⟩
  have hc5:=(iC W0.heap.size (w.heap.size+1) 3 (fun _:Unit=>#[.int .i64 (x:Nat)]) () _ _ (some D) hb (grownBy_putObj' _ D (.deferred none)) (fun r e=>by cases e;exact⟨by omega,_,hK,rfl⟩)).cell 0
  refine⟨.int .i64 (x:Nat),?_,by rw[hle];rfl,hB.trans (belowK_b (w:=w) (Nat.le_refl _) W D _ _ (by omega) hK rfl rfl)⟩
  simp[results,Tryz.f115,go_sem,hc5]
end
end Go.Proofs.YtengfapcaaacaaaGreatDoor
