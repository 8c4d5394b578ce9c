/- The texts of S15, in few letters (mini.py). -/
import Derived.Test.YtbemonecmmnlcaaGreatDoorM13
set_option linter.unusedVariables false
set_option linter.unusedSimpArgs false
set_option maxHeartbeats 3200000
set_option maxRecDepth 20000
namespace Go.Proofs.YtbemonecmmnlcaaGreatDoor
open Go.RowKit
abbrev UA(x:List UInt8):List Value:=[sv x]
theorem ZM:eH UA 1:=⟨fun _=>rfl,fun x u hu=>by simp at hu;subst hu;rfl⟩
def Fv:List (List UInt8)→Nat→List (List UInt8×Value)
 | [],_=>[]
 | k::ks,i=>(k,.int .i64 (i:Nat))::Fv ks (i+1)
theorem IJ:∀ (ks:List (List UInt8)) (k:List UInt8) (i:Nat),Fv (ks++[k]) i=Fv ks i++[(k,.int .i64 ((i+ks.length:Nat):Nat))]
 | [],k,i=>rfl
 | x::ks,k,i=>by rw[List.cons_append,Fv,IJ ks k (i+1),Fv,List.cons_append,List.length_cons,show i+1+ks.length=i+(ks.length+1) by omega]
theorem BG(k:List UInt8):∀ (ks:List (List UInt8)) (i:Nat),look k (Fv ks i)=(ks.idxOf? k).map fun j=>Value.int .i64 ((i+j:Nat):Nat)
 | [],i=>rfl
 | x::ks,i=>by
  rw[Fv,look,BG k ks (i+1),List.idxOf?_cons]
  by_cases h:k=x
  ·subst h;simp
  ·have h2:(x==k)=false:=by simp;exact fun e=>h e.symm
   rw[if_neg h,h2]
   simp only[Bool.false_eq_true,if_false,Option.map_map]
   congr 1
   funext j
   simp[Nat.add_assoc,Nat.add_comm 1 j]
structure TabAt(w:World)(tb mb base:Nat)(kv:Value)(ks:List (List UInt8)):Prop where
 box:Box w tb #[.map (some mb),kv] 318
 mp:aG w mb (fun s:List UInt8=>sv s) (Fv ks 0)
 own:Own w base 9 1 UA kv ks
 lt:tb<base∧mb<base∧tb≠mb
theorem TabAt.kept{w w':World}{tb mb base:Nat}{kv:Value}{ks:List (List UInt8)}(h:TabAt w tb mb base kv ks)(hb:Below w.heap.size w w'):TabAt w' tb mb base kv ks:=⟨h.box.kept hb,h.mp.kept hb,h.own.kept hb,h.lt⟩
structure abJ(tb mb:Nat)(kv kv':Value)(w w':World):Prop where
 os:w'.os=w.os
 tape:w'.tape=w.tape
 output:w'.output=w.output
 size:w.heap.size≤w'.heap.size
 block:∀ b,b<w.heap.size→b≠tb→b≠mb→kv.ownBlock≠some b→w'.heap[b]?=w.heap[b]?
 fresh:∀ g,kv'.ownBlock=some g→kv.ownBlock=some g∨w.heap.size≤g
theorem Ld:dQ Tryz.prog 25 9 (.string ⟨#[]⟩) 1 16:=⟨Tryz.underlying25,info_parts (by kernel_rfl),rfl,by decide⟩
theorem UC(w:World):Calls Tryz.prog 195 #[] w fun e w'=>e=.returned (.pointer (some ⟨w.heap.size+1,0,none⟩))∧TabAt w' (w.heap.size+1) w.heap.size (w.heap.size+2) (.slice none 0 0) []∧w'.heap.size=w.heap.size+2∧Below w.heap.size w w':=by
 have hmm:=@run_makeMap Tryz.prog
 go_enter Tryz.func195,Tryz.ntmps195
 go_wp2
 go_ret
 have hB1:=aj w (.map #[] 0)
 refine⟨by simp,⟨Box.new' (by simp) _ _,(aG.new w _).alloc _,Own.nil _ _ _ _ _,by omega,by omega,by omega⟩,by simp,hB1.alloc hB1.size _⟩
theorem Le(w:World):(zeroValue 3).run Tryz.prog w=.ok (.int .i64 0) w:=by
 have h:(Tryz.prog.info? 3).map (fun i=>(i.zero,i.size))=some (some (.int .i64 0),1):=by kernel_rfl
 exact(zero_of_info h).1 w
theorem UD(tb mb base j:Nat)(kv:Value)(ks:List (List UInt8))(k:List UInt8)(w:World)(h:TabAt w tb mb base kv ks)(hj:ks.idxOf? k=some j) :
  Calls Tryz.prog 285 #[.pointer (some ⟨tb,0,none⟩),sv k] w fun e w'=>e=.returned (.tuple #[.int .i64 j,.bool false])∧w'=w:=by
 have hlk:=h.mp.oK kT Tryz.underlying316 (Le w) k
 rw[BG,hj] at hlk
 simp only[Option.map_some,Option.getD_some,Option.isSome_some,Nat.zero_add] at hlk
 have x0:w.cell? ⟨tb,0,none⟩=some (.map (some mb)):=h.box.cell 0
 have hl:=h.box.lt
 clear h hj
 go_enter Tryz.func285,Tryz.ntmps285
 go_wp2
 go_ret2
 exact⟨rfl,rfl⟩
theorem UE(tb mb base:Nat)(kv:Value)(ks:List (List UInt8))(k:List UInt8)(w:World)(h:TabAt w tb mb base kv ks)(hj:ks.idxOf? k=none)(hn:ks.length≤1099511627776)(hb:base≤w.heap.size) :
  Calls Tryz.prog 285 #[.pointer (some ⟨tb,0,none⟩),sv k] w fun e w'=>e=.returned (.tuple #[.int .i64 ks.length,.bool true])∧∃ kv',TabAt w' tb mb base kv' (ks++[k])∧abJ tb mb kv kv' w w':=by
 have hlk:=h.mp.oK kT Tryz.underlying316 (Le w) k
 rw[BG,hj] at hlk
 simp only[Option.map_none,Option.getD_none,Option.isSome_none] at hlk
 obtain⟨ka,kc,hkv⟩:=h.own.form
 subst hkv
 have x0:w.cell? ⟨tb,0,none⟩=some (.map (some mb)):=h.box.cell 0
 have x1:w.cell? ⟨tb,1,none⟩=some (.slice ka ks.length kc):=h.box.cell 1
 have hl:=h.box.lt
 have hlt:=h.lt
 obtain⟨w4,hput,hm4,qL,Bl,zI⟩:=h.mp.pW kT Tryz.underlying316 k (.int .i64 ks.length)
 rw[jK k _ _ (by rw[BG,hj];rfl)] at hm4
 have hm5:aG w4 mb (fun s:List UInt8=>sv s) (Fv (ks++[k]) 0):=by rw[IJ,Nat.zero_add];exact hm4
 have UF:Box w4 tb #[.map (some mb),.slice ka ks.length kc] 318:=(qL tb hlt.2.2).trans h.box
 have hown4:=h.own.same (w':=w4) fun g hg=>qL g (by have:=(h.own.blk hg).1;omega)
 have z0:w4.cell? ⟨tb,0,none⟩=some (.map (some mb)):=UF.cell 0
 have z1:w4.cell? ⟨tb,1,none⟩=some (.slice ka ks.length kc):=UF.cell 1
 have HB4:=ah UF;have RX:=ah hm5;have sO:=ah qL;have HBL:=ah zI;have HOW:=ah hown4
 have hws:base≤w4.heap.size:=by omega
 clear hm4 hm5 qL zI UF hown4 hj h
 have dw:=aj w4 (.cells #[sv k] 9)
 have hnews:∀ j u,(UA k)[j]?=some u→(w4.alloc (.cells #[sv k] 9)).cell? ((⟨w.heap.size,0,none⟩:Addr).add j)=some u:=by rw[←Bl];exact cZ w4 [sv k] _
 have HNW:=ah hnews
 clear hnews
 go_enter Tryz.func285,Tryz.ntmps285
 go_wp2_with (at_builtin;go_must (refine dS rfl _ _ 25 rfl Ld ZM rfl (HOW.out.alloc _) ⟨w.heap.size,0,none⟩ 1 k rfl HNW.out (by simp only[maxLen];omega) (by omega) (by simp only[World.size_alloc];omega) ?_;intro a7 c7 w7 iy cO qK;have hb7:=(HB4.out.alloc (.cells #[sv k] 9)).grown (HOW.out.alloc _) cO hlt.1;have q1:=hb7.cell 1;have f1:=hb7.free 1;have Dv:=hb7.lt))
 go_ret2
 have hm7:aG w7 mb (fun s:List UInt8=>sv s) (Fv (ks++[k]) 0):=(RX.out.alloc (.cells #[sv k] 9)).same (cO.block mb ((RX.out.alloc (.cells #[sv k] 9)).lt) fun e=>by
  have:=((HOW.out.alloc (.cells #[sv k] 9)).blk e.symm).1;omega)
 have hle:(ks++[k]).length=ks.length+1:=by simp
 have hs7:=cO.size
 simp only[World.size_alloc] at hs7
 refine⟨rfl,_,⟨hb7.set 1 _,hm7.other _ _ (fun e=>hlt.2.2 e.symm),iy.other _ _ hlt.1,hlt⟩,?_⟩
 have hb0:=HBL.out 0 (Nat.zero_le _)
 refine⟨cO.os.trans (dw.os.trans hb0.os),cO.tape.trans (dw.tape.trans hb0.tape),cO.output.trans (dw.output.trans hb0.output),by rw[World.size_setCell];omega,fun b hb1 h1 h2 h3=>?_,fun g hg=>?_⟩
 ·rw[heap_setCell_other _ _ b _ h1,cO.block b (by simp only[World.size_alloc];omega) (fun e=>h3 e.symm),dw.block b (by omega)]
  exact sO.out b h2
 ·rcases qK with e | e
  ·exact .inl (e▸hg)
  ·rw[e] at hg
   cases hg
   exact .inr (by simp only[World.size_alloc];omega)
end Go.Proofs.YtbemonecmmnlcaaGreatDoor
