/- The texts of E17, in few letters (mini.py). -/
import Derived.Test.YtengfapcaaacaaaGreatDoorF15
set_option linter.unusedVariables false
set_option linter.unusedSimpArgs false
set_option maxHeartbeats 3200000
set_option maxRecDepth 20000
namespace Go.Proofs.YtengfapcaaacaaaGreatDoor
open Go.RowKit
abbrev Yw(x:List UInt8):List Value:=[sv x]
theorem adO:dX Yw 1:=⟨fun _=>rfl,fun x u hu=>by simp at hu;subst hu;rfl⟩
def Ij:List (List UInt8)→Nat→List (List UInt8×Value)
 | [],_=>[]
 | k::ks,i=>(k,.int .i64 (i:Nat))::Ij ks (i+1)
theorem Lc:∀ (ks:List (List UInt8)) (k:List UInt8) (i:Nat),Ij (ks++[k]) i=Ij ks i++[(k,.int .i64 ((i+ks.length:Nat):Nat))]
 | [],k,i=>rfl
 | x::ks,k,i=>by rw[List.cons_append,Ij,Lc ks k (i+1),Ij,List.cons_append,List.length_cons,show i+1+ks.length=i+(ks.length+1) by omega]
theorem D7(k:List UInt8):∀ (ks:List (List UInt8)) (i:Nat),look k (Ij ks i)=(ks.idxOf? k).map fun j=>Value.int .i64 ((i+j:Nat):Nat)
 | [],i=>rfl
 | x::ks,i=>by
  rw[Ij,look,D7 k ks (i+1),List.idxOf?_cons]
  by_cases h:k=x
  ·subst h;simp
  ·have h2:(x==k)=false:=by simp;exact fun e=>h e.symm
   rw[if_neg h,h2]
   simp only[Bool.false_eq_true,if_false,Option.map_map]
   congr 1
   funext j
   simp[Nat.add_assoc,Nat.add_comm 1 j]
structure TabAt(w:World)(tb mb base:Nat)(kv:Value)(ks:List (List UInt8)):Prop where
 box:Box w tb #[.map (some mb),kv] 284
 mp:aP w mb (fun s:List UInt8=>sv s) (Ij ks 0)
 own:Own w base 9 1 Yw kv ks
 lt:tb<base∧mb<base∧tb≠mb
theorem TabAt.kept{w w':World}{tb mb base:Nat}{kv:Value}{ks:List (List UInt8)}(h:TabAt w tb mb base kv ks)(hb:Below w.heap.size w w'):TabAt w' tb mb base kv ks:=⟨h.box.kept hb,h.mp.kept hb,h.own.kept hb,h.lt⟩
structure afs(tb mb:Nat)(kv kv':Value)(w w':World):Prop where
 os:w'.os=w.os
 tape:w'.tape=w.tape
 output:w'.output=w.output
 size:w.heap.size≤w'.heap.size
 block:∀ b,b<w.heap.size→b≠tb→b≠mb→kv.ownBlock≠some b→w'.heap[b]?=w.heap[b]?
 fresh:∀ g,kv'.ownBlock=some g→kv.ownBlock=some g∨w.heap.size≤g
theorem OV:dI Tryz.prog 25 9 (.string ⟨#[]⟩) 1 16:=⟨Tryz.underlying25,info_parts (by kernel_rfl),rfl,by decide⟩
theorem Yx(w:World):Calls Tryz.prog 154 #[] w fun e w'=>e=.returned (.pointer (some ⟨w.heap.size+1,0,none⟩))∧TabAt w' (w.heap.size+1) w.heap.size (w.heap.size+2) (.slice none 0 0) []∧w'.heap.size=w.heap.size+2∧Below w.heap.size w w':=by
 have hmm:=@run_makeMap Tryz.prog
 go_enter Tryz.func154,Tryz.ntmps154
 go_wp2
 go_ret
 have hB1:=aj w (.map #[] 0)
 refine⟨by simp,⟨Box.new' (by simp) _ _,(aP.new w _).alloc _,Own.nil _ _ _ _ _,by omega,by omega,by omega⟩,by simp,hB1.alloc hB1.size _⟩
theorem OW(w:World):(zeroValue 3).run Tryz.prog w=.ok (.int .i64 0) w:=by
 have h:(Tryz.prog.info? 3).map (fun i=>(i.zero,i.size))=some (some (.int .i64 0),1):=by kernel_rfl
 exact(zero_of_info h).1 w
theorem Yy(tb mb base j:Nat)(kv:Value)(ks:List (List UInt8))(k:List UInt8)(w:World)(h:TabAt w tb mb base kv ks)(hj:ks.idxOf? k=some j) :
  Calls Tryz.prog 240 #[.pointer (some ⟨tb,0,none⟩),sv k] w fun e w'=>e=.returned (.tuple #[.int .i64 j,.bool false])∧w'=w:=by
 have hlk:=h.mp.nS nG Tryz.underlying282 (OW w) k
 rw[D7,hj] at hlk
 simp only[Option.map_some,Option.getD_some,Option.isSome_some,Nat.zero_add] at hlk
 have x0:w.cell? ⟨tb,0,none⟩=some (.map (some mb)):=h.box.cell 0
 have hl:=h.box.lt
 clear h hj
 go_enter Tryz.func240,Tryz.ntmps240
 go_wp2
 go_ret2
 exact⟨rfl,rfl⟩
theorem Yz(tb mb base:Nat)(kv:Value)(ks:List (List UInt8))(k:List UInt8)(w:World)(h:TabAt w tb mb base kv ks)(hj:ks.idxOf? k=none)(hn:ks.length≤1099511627776)(hb:base≤w.heap.size) :
  Calls Tryz.prog 240 #[.pointer (some ⟨tb,0,none⟩),sv k] w fun e w'=>e=.returned (.tuple #[.int .i64 ks.length,.bool true])∧∃ kv',TabAt w' tb mb base kv' (ks++[k])∧afs tb mb kv kv' w w':=by
 have hlk:=h.mp.nS nG Tryz.underlying282 (OW w) k
 rw[D7,hj] at hlk
 simp only[Option.map_none,Option.getD_none,Option.isSome_none] at hlk
 obtain⟨ka,kc,hkv⟩:=h.own.form
 subst hkv
 have x0:w.cell? ⟨tb,0,none⟩=some (.map (some mb)):=h.box.cell 0
 have x1:w.cell? ⟨tb,1,none⟩=some (.slice ka ks.length kc):=h.box.cell 1
 have hl:=h.box.lt
 have hlt:=h.lt
 obtain⟨w4,hput,hm4,qF,BO,wU⟩:=h.mp.nD nG Tryz.underlying282 k (.int .i64 ks.length)
 rw[jJ k _ _ (by rw[D7,hj];rfl)] at hm4
 have hm5:aP w4 mb (fun s:List UInt8=>sv s) (Ij (ks++[k]) 0):=by rw[Lc,Nat.zero_add];exact hm4
 have YA:Box w4 tb #[.map (some mb),.slice ka ks.length kc] 284:=(qF tb hlt.2.2).trans h.box
 have hown4:=h.own.same (w':=w4) fun g hg=>qF g (by have:=(h.own.blk hg).1;omega)
 have z0:w4.cell? ⟨tb,0,none⟩=some (.map (some mb)):=YA.cell 0
 have z1:w4.cell? ⟨tb,1,none⟩=some (.slice ka ks.length kc):=YA.cell 1
 have HB4:=ah YA;have Wj:=ah hm5;have Wn:=ah qF;have HBL:=ah wU;have HOW:=ah hown4
 have hws:base≤w4.heap.size:=by omega
 clear hm4 hm5 qF wU YA hown4 hj h
 have bI:=aj w4 (.cells #[sv k] 9)
 have hnews:∀ j u,(Yw k)[j]?=some u→(w4.alloc (.cells #[sv k] 9)).cell? ((⟨w.heap.size,0,none⟩:Addr).add j)=some u:=by rw[←BO];exact bW w4 [sv k] _
 have HNW:=ah hnews
 clear hnews
 go_enter Tryz.func240,Tryz.ntmps240
 go_wp2_with (at_builtin;go_must (refine eX rfl _ _ 25 rfl OV adO rfl (HOW.out.alloc _) ⟨w.heap.size,0,none⟩ 1 k rfl HNW.out (by simp only[maxLen];omega) (by omega) (by simp only[World.size_alloc];omega) ?_;intro a7 c7 w7 gJ dn oI;have hb7:=(HB4.out.alloc (.cells #[sv k] 9)).grown (HOW.out.alloc _) dn hlt.1;have q1:=hb7.cell 1;have f1:=hb7.free 1;have RX:=hb7.lt))
 go_ret2
 have hm7:aP w7 mb (fun s:List UInt8=>sv s) (Ij (ks++[k]) 0):=(Wj.out.alloc (.cells #[sv k] 9)).same (dn.block mb ((Wj.out.alloc (.cells #[sv k] 9)).lt) fun e=>by
  have:=((HOW.out.alloc (.cells #[sv k] 9)).blk e.symm).1;omega)
 have hle:(ks++[k]).length=ks.length+1:=by simp
 have hs7:=dn.size
 simp only[World.size_alloc] at hs7
 refine⟨rfl,_,⟨hb7.set 1 _,hm7.other _ _ (fun e=>hlt.2.2 e.symm),gJ.other _ _ hlt.1,hlt⟩,?_⟩
 have hb0:=HBL.out 0 (Nat.zero_le _)
 refine⟨dn.os.trans (bI.os.trans hb0.os),dn.tape.trans (bI.tape.trans hb0.tape),dn.output.trans (bI.output.trans hb0.output),by rw[World.size_setCell];omega,fun b hb1 h1 h2 h3=>?_,fun g hg=>?_⟩
 ·rw[heap_setCell_other _ _ b _ h1,dn.block b (by simp only[World.size_alloc];omega) (fun e=>h3 e.symm),bI.block b (by omega)]
  exact Wn.out b h2
 ·rcases oI with e | e
  ·exact .inl (e▸hg)
  ·rw[e] at hg
   cases hg
   exact .inr (by simp only[World.size_alloc];omega)
end Go.Proofs.YtengfapcaaacaaaGreatDoor
