/- The texts of N21, in few letters (mini.py). -/
import Derived.Test.YtengfapcaaacaaaGreatDoorM19
set_option linter.unusedVariables false
set_option linter.unusedSimpArgs false
set_option maxHeartbeats 3200000
set_option maxRecDepth 20000
namespace Go.Proofs.YtengfapcaaacaaaGreatDoor
section
theorem xX:∀ (L:List Lx) (x:Tr),(dL L x).2 <:+ L
 | [],x=>by rw[dL];exact List.suffix_refl _
 | a::L,x=>by
  rw[qc]
  have h:∀ y,(dL L y).2 <:+ a::L:=fun y=>(xX L y).trans (List.suffix_cons a L)
  split;· exact h _
  split;· exact h _
  split;· exact h _
  split;· exact h _
  exact List.suffix_refl _
theorem XK{n d:Nat}{a:Lx}{L R:List Lx}{x:Tr}(h:pJ n d a L=some (.inr (x,R))):∃ b,jd n (d+1) [] L=some (.inr (x,b::R)):=by
 unfold pJ at h
 split at h
 ·cases h
 ·cases hA:jd n (d+1) [] L with
  | none=>rw[hA] at h;cases h
  | some A =>
   rw[hA] at h
   cases A with
   | inl q=>cases h
   | inr p =>
    obtain⟨y,R'⟩:=p
    cases R' with
    | nil=>cases h
    | cons b R' =>
     dsimp only at h
     split at h
     ·cases h;exact⟨b,rfl⟩
     ·cases h
theorem BA:∀ n,(∀ d parts L x r,jd n d parts L=some (.inr (x,r))→r <:+ L)∧(∀ d parts L x r,jK n d parts L=some (.inr (x,r))→r <:+ L)∧(∀ d L x r,kX n d L=some (.inr (some (x,r)))→r <:+ L∧r.length<L.length):=by
 intro n
 induction n with
 | zero=>exact⟨fun d p L x r h=>(by rw[jd] at h;cases h),fun d p L x r h=>(by rw[jK] at h;cases h),fun d L x r h=>(by rw[kX] at h;cases h)⟩
 | succ n ih =>
  refine⟨fun d parts L x r h=>?_,fun d parts L x r h=>?_,fun d L x r h=>?_⟩
  ·rw[lJ] at h
   split at h
   ·cases h
   ·cases h
   ·rename_i y r' hy
    have h1:=ih.2.1 _ _ _ _ _ hy
    cases r' with
    | nil=>cases h;exact h1
    | cons a r' =>
     by_cases h4:a.kind=4
     ·exact(ih.1 _ _ _ _ _ ((if_pos h4).symm.trans h)).trans ((List.suffix_cons a r').trans h1)
     ·have:=(if_neg h4).symm.trans h;cases this;exact h1
  ·rw[jV] at h
   split at h
   ·cases h
   ·cases h
   ·rename_i y r' hy
    exact(ih.2.1 _ _ _ _ _ h).trans ((xX _ _).trans (ih.2.2 _ _ _ _ hy).1)
   ·cases h;exact List.suffix_refl _
  ·cases L with
   | nil=>rw[uP] at h;cases h
   | cons a L =>
    rw[pq] at h
    split at h
    ·cases h;exact⟨List.suffix_cons _ _,by simp⟩
    split at h
    ·cases hg:pJ n d a L with
     | none=>rw[hg] at h;cases h
     | some G =>
      rw[hg] at h
      cases G with
      | inl q=>cases h
      | inr p =>
       obtain⟨y,R⟩:=p
       cases h
       obtain⟨b,hb⟩:=XK hg
       have h1:=(List.suffix_cons b _).trans (ih.1 _ _ _ _ _ hb)
       exact⟨h1.trans (List.suffix_cons a L),by have:=h1.length_le;simp;omega⟩
    split at h;· cases h
    split at h;· cases h
    cases h
theorem Z9:∀ n,(∀ d parts L,3*L.length+3≤n→jd n d parts L≠none)∧(∀ d parts L,3*L.length+2≤n→jK n d parts L≠none)∧(∀ d L,3*L.length+1≤n→kX n d L≠none):=by
 intro n
 induction n with
 | zero=>exact⟨fun d p L h=>(by omega),fun d p L h=>(by omega),fun d L h=>(by omega)⟩
 | succ n ih =>
  refine⟨fun d parts L hl=>?_,fun d parts L hl=>?_,fun d L hl=>?_⟩
  ·rw[lJ]
   have h1:=ih.2.1 d [] L (by omega)
   cases hp:jK n d [] L with
   | none=>exact absurd hp h1
   | some P =>
    cases P with
    | inl q=>simp
    | inr p =>
     obtain⟨x,r⟩:=p
     have h2:=((BA n).2.1 _ _ _ _ _ hp).length_le
     cases r with
     | nil=>simp[NK]
     | cons a r =>
      show NK n d _ (a::r)≠none
      simp only[List.length_cons] at h2
      unfold NK
      dsimp only
      split
      ·exact ih.1 _ _ _ (by omega)
      ·simp
  ·rw[jV]
   have h1:=ih.2.2 d L (by omega)
   cases hp:kX n d L with
   | none=>exact absurd hp h1
   | some P =>
    cases P with
    | inl q=>simp
    | inr o =>
     cases o with
     | none=>simp
     | some p =>
      obtain⟨x,r⟩:=p
      have h2:=((BA n).2.2 _ _ _ _ hp).2
      have h3:=(xX r x).length_le
      exact ih.2.1 _ _ _ (by omega)
  ·cases L with
   | nil=>rw[uP];simp
   | cons a L =>
    rw[pq]
    simp only[List.length_cons] at hl
    split;· simp
    split
    ·unfold pJ
     split
     ·simp
     ·have h1:=ih.1 (d+1) [] L (by omega)
      cases hA:jd n (d+1) [] L with
      | none=>exact absurd hA h1
      | some A =>
       cases A with
       | inl q=>simp
       | inr p =>
        obtain⟨x,R⟩:=p
        cases R with
        | nil=>simp
        | cons b R =>
         dsimp only
         split <;> simp
    split;· simp
    split;· simp
    simp
theorem af0(B:Nat):∀ n,(∀ d parts L q,(∀ a∈L,a.at'≤B)→jd n d parts L=some (.inl q)→q.2≤B)∧(∀ d parts L q,(∀ a∈L,a.at'≤B)→jK n d parts L=some (.inl q)→q.2≤B)∧(∀ d L q,(∀ a∈L,a.at'≤B)→kX n d L=some (.inl q)→q.2≤B):=by
 intro n
 induction n with
 | zero=>exact⟨fun d p L q _ h=>(by rw[jd] at h;cases h),fun d p L q _ h=>(by rw[jK] at h;cases h),fun d L q _ h=>(by rw[kX] at h;cases h)⟩
 | succ n ih =>
  refine⟨fun d parts L q hB h=>?_,fun d parts L q hB h=>?_,fun d L q hB h=>?_⟩
  ·rw[lJ] at h
   split at h
   ·cases h
   ·rename_i q' hq;cases h;exact ih.2.1 _ _ _ _ hB hq
   ·rename_i x r hx
    have h1:=((BA n).2.1 _ _ _ _ _ hx).subset
    cases r with
    | nil=>cases h
    | cons a r =>
     by_cases h4:a.kind=4
     ·exact ih.1 _ _ _ _ (fun b hb=>hB b (h1 (List.mem_cons_of_mem _ hb))) ((if_pos h4).symm.trans h)
     ·have:=(if_neg h4).symm.trans h;cases this
  ·rw[jV] at h
   split at h
   ·cases h
   ·rename_i q' hq;cases h;exact ih.2.2 _ _ _ hB hq
   ·rename_i x r hx
    have h1:=((xX r x).trans ((BA n).2.2 _ _ _ _ hx).1).subset
    exact ih.2.1 _ _ _ _ (fun b hb=>hB b (h1 hb)) h
   ·cases h
  ·cases L with
   | nil=>rw[uP] at h;cases h
   | cons a L =>
    have ha:=hB a (by simp)
    rw[pq] at h
    split at h;· cases h
    split at h
    ·unfold pJ at h
     split at h
     ·cases h;exact ha
     ·cases hA:jd n (d+1) [] L with
      | none=>rw[hA] at h;cases h
      | some A =>
       rw[hA] at h
       cases A with
       | inl q'=>cases h;exact ih.1 _ _ _ _ (fun b hb=>hB b (List.mem_cons_of_mem _ hb)) hA
       | inr p =>
        obtain⟨x,R⟩:=p
        cases R with
        | nil=>cases h;exact ha
        | cons b R =>
         dsimp only at h
         split at h
         ·cases h
         ·cases h;exact ha
    split at h;· cases h;exact ha
    split at h;· cases h;exact ha
    cases h
theorem NR{l:List UInt8}{i:Nat}:(∀ q,mM l i=.inl q→q.2=i)∧(∀ x,mM l i=.inr x→x.2≤l.length):=by
 unfold mM
 constructor
 ·intro q h
  repeat' split at h
  all_goals first | (cases h;rfl) | cases h
 ·intro x h
  split at h
  ·cases h
  ·repeat' split at h
   all_goals first | (cases h;simp;omega) | cases h
theorem SA{l:List UInt8}{fr i B:Nat}(h1:fr≤B)(h2:i≤B):(∀ q,iY l fr i=.inl q→q.2≤B)∧(∀ x,iY l fr i=.inr x→x.2≤l.length):=by
 unfold iY
 constructor
 ·intro q h
  split at h;· cases h;exact h1
  split at h;· rw[NR.1 q h];exact h2
  split at h;· cases h;exact h2
  cases h
 ·intro x h
  split at h;· cases h
  split at h;· exact NR.2 x h
  split at h;· cases h
  cases h;simp;omega
theorem SB{l:List UInt8}{fr i:Nat}(h1:fr≤l.length)(h2:i≤l.length):(∀ q,iP l fr i=.inl q→q.2≤l.length)∧(∀ x,iP l fr i=.inr x→x.2≤l.length):=by
 unfold iP
 have c1:=SA (l:=l) h1 h2
 cases hc:iY l fr i with
 | inl q=>exact⟨fun q' h=>(by cases h;exact c1.1 _ hc),fun x h=>(by cases h)⟩
 | inr p =>
  obtain⟨lo,j⟩:=p
  dsimp only
  have hj:j≤l.length:=c1.2 _ hc
  by_cases hh:aX l j 45=true
  ·rw[if_pos hh]
   have hj2:j<l.length:=iO hh
   have c2:=SA (l:=l) h1 (show j+1≤l.length by omega)
   cases hc2:iY l fr (j+1) with
   | inl q=>exact⟨fun q' h=>(by cases h;exact c2.1 _ hc2),fun x h=>(by cases h)⟩
   | inr p2 =>
    obtain⟨hi,k⟩:=p2
    dsimp only
    have hk:k≤l.length:=c2.2 _ hc2
    split
    ·exact⟨fun q' h=>(by cases h;exact h2),fun x h=>(by cases h)⟩
    ·exact⟨fun q' h=>(by cases h),fun x h=>(by cases h;exact hk)⟩
  ·rw[if_neg hh]
   exact⟨fun q' h=>(by cases h),fun x h=>(by cases h;exact hj)⟩
theorem acU{l:List UInt8}{fr:Nat}(h1:fr≤l.length):∀ (n:Nat) (s:au) (i:Nat),i≤l.length→∀ q,vJ l fr n s i=.inl q→q.2≤l.length:=by
 intro n
 induction n with
 | zero=>intro s i _ q h;rw[vJ] at h;cases h;exact h1
 | succ n ih =>
  intro s i hi q h
  rw[zA] at h
  have c1:=SB h1 hi
  split at h
  ·cases h
  ·split at h
   ·rename_i q' hq;cases h;exact c1.1 _ hq
   ·rename_i q' k hq;exact ih _ _ (c1.2 _ hq) _ h
theorem aac{l:List UInt8}{fr:Nat}{q:Nat×Nat}(h:oG l fr=.inl q):q.2≤l.length:=by
 have hf:∀ i,fr≤l.length→i≤l.length→∀ q,yD l fr i=.inl q→q.2≤l.length:=fun i h1 h2 q hq=>by
  unfold yD at hq
  have c1:=SB h1 h2
  split at hq
  ·rename_i q' hq';cases hq;exact c1.1 _ hq'
  ·rename_i q' k hq';exact acU h1 _ _ _ (c1.2 _ hq') _ hq
 unfold oG at h
 split at h
 ·rename_i h91
  have h1:=iO h91
  split at h
  ·rename_i q' hq
   cases h
   refine hf _ (by omega) ?_ _ hq
   split
   ·rename_i h94;have:=iO h94;omega
   ·omega
  ·cases h
 ·cases h;simp
theorem af2{l:List UInt8}{i:Nat}{q:Nat×Nat}(h:yQ l i=.inl q):q.2=i:=by
 unfold yQ at h
 repeat' split at h
 all_goals first | (cases h;rfl) | cases h
theorem aad{l:List UInt8}{i:Nat}(hi:i<l.length):(∀ q,mY l i=.inl q→q.2≤l.length)∧(∀ x,mY l i=.inr x→x.1.at'=i):=by
 unfold mY
 dsimp only
 split
 ·cases he:mM l i with
  | inl q=>exact⟨fun q' h=>(by cases h;rw[NR.1 _ he];omega),fun x h=>(by cases h)⟩
  | inr p=>exact⟨fun q' h=>(by cases h),fun x h=>(by cases h;rfl)⟩
 split
 ·cases he:oG l i with
  | inl q=>exact⟨fun q' h=>(by cases h;exact aac he),fun x h=>(by cases h)⟩
  | inr p=>exact⟨fun q' h=>(by cases h),fun x h=>(by cases h;rfl)⟩
 split
 ·cases he:yQ l i with
  | inl q=>exact⟨fun q' h=>(by cases h;rw[af2 he];omega),fun x h=>(by cases h)⟩
  | inr p=>exact⟨fun q' h=>(by cases h),fun x h=>(by cases h;rfl)⟩
 split;· exact⟨fun q' h=>(by cases h),fun x h=>(by cases h;rfl)⟩
 split;· exact⟨fun q' h=>(by cases h;simp;omega),fun x h=>(by cases h)⟩
 split;· exact⟨fun q' h=>(by cases h),fun x h=>(by cases h;rfl)⟩
 exact⟨fun q' h=>(by cases h),fun x h=>(by cases h;rfl)⟩
theorem XL{l:List UInt8}:∀ (n i:Nat) (acc:List Lx),(∀ a∈acc,a.at'≤l.length)→(∀ q,lexFrom l n i acc=.inl q→q.2≤l.length)∧(∀ X,lexFrom l n i acc=.inr X→∀ a∈X,a.at'≤l.length):=by
 intro n
 induction n with
 | zero=>intro i acc ha;rw[lexFrom];exact⟨fun q h=>(by cases h),fun X h=>(by cases h;exact ha)⟩
 | succ n ih =>
  intro i acc ha
  rw[lexFrom]
  by_cases hi:i<l.length
  ·rw[if_pos hi]
   have h1:=aad hi
   cases ho:mY l i with
   | inl q=>exact⟨fun q' h=>(by cases h;exact h1.1 _ ho),fun X h=>(by cases h)⟩
   | inr p =>
    obtain⟨x,j⟩:=p
    refine ih j (acc++[x]) fun a hm=>?_
    rcases List.mem_append.1 hm with hm | hm
    ·exact ha a hm
    ·rw[List.mem_singleton] at hm;subst hm
     have:=h1.2 _ ho
     simp only at this
     omega
  ·rw[if_neg hi];exact⟨fun q h=>(by cases h),fun X h=>(by cases h;exact ha)⟩
theorem aae{l:List UInt8}(hl:l.length≤65536):(∀ q,jP l=.inl q→q.2≤65536)∧(∀ X,jP l=.inr X→∀ a∈X,a.at'≤65536):=by
 unfold jP
 rw[if_neg (by omega)]
 have h:=XL (l:=l) (l.length+1) 0 [] (fun a h=>by simp at h)
 exact⟨fun q hq=>Nat.le_trans (h.1 q hq) hl,fun X hX a ha=>Nat.le_trans (h.2 X hX a ha) hl⟩
theorem UW{l:List UInt8}:tZ 4096 l≠none:=by
 rw[xU]
 cases hx:jP l with
 | inl q=>simp
 | inr L =>
  show Ak 4096 L≠none
  unfold Ak
  split
  ·simp
  ·have:=(Z9 4096).1 0 [] L (by omega)
   cases hA:jd 4096 0 [] L with
   | none=>exact absurd hA this
   | some A=>simp
theorem aaf{l:List UInt8}(hl:l.length≤65536){q:Nat×Nat}(h:tZ 4096 l=some (.inl q)):q.2≤65536:=by
 rw[xU] at h
 have h1:=aae hl
 cases hx:jP l with
 | inl q'=>rw[hx] at h;cases h;exact h1.1 _ hx
 | inr L =>
  rw[hx] at h
  have h2:=h1.2 _ hx
  have h:Ak 4096 L=some (.inl q):=h
  unfold Ak at h
  split at h
  ·rename_i hb
   cases h
   show(L.getD 1024 _).at'≤65536
   rw[List.getD_eq_getElem?_getD,List.getElem?_eq_getElem hb]
   exact h2 _ (List.getElem_mem hb)
  ·cases hA:jd 4096 0 [] L with
   | none=>rw[hA] at h;cases h
   | some A =>
    rw[hA] at h
    cases A with
    | inl q'=>cases h;exact(af0 65536 4096).1 _ _ _ _ h2 hA
    | inr p=>cases h
theorem XM(have':List (List UInt8))(s:List UInt8):zB 4096 have' s≠none:=by
 rw[xW]
 cases sH have' s with
 | inl q=>simp
 | inr nm =>
  have:=UW (l:=s.drop (nm.length+1))
  cases hp:tZ 4096 (s.drop (nm.length+1)) with
  | none=>exact absurd hp this
  | some P=>simp[hp]
theorem acV{have':List (List UInt8)}{s:List UInt8}(hl:s.length≤65536){q:Nat×Nat}(h:zB 4096 have' s=some (.inl q)):q.2≤200000∧q.1≠0:=by
 rw[xW] at h
 have hk:=vI true s
 cases hh:sH have' s with
 | inl q' =>
  rw[hh] at h
  cases h
  refine⟨?_,Sl hh⟩
  unfold sH at hh
  split at hh;· cases hh;simp
  split at hh;· cases hh;simp
  split at hh;· cases hh;simp
  split at hh;· cases hh;show runFrom true s≤_;omega
  split at hh;· cases hh;simp
  cases hh
 | inr nm =>
  rw[hh] at h
  have h2:=Gl hh
  dsimp only at h
  cases hp:tZ 4096 (s.drop (nm.length+1)) with
  | none=>rw[hp] at h;cases h
  | some P =>
   rw[hp] at h
   cases P with
   | inl q' =>
    cases h
    have:=aaf (by rw[List.length_drop];omega) hp
    exact⟨by show q'.2+(nm.length+1)≤_;omega,show q'.1≠0 from OQ hp⟩
   | inr x=>cases h
end
section
open Go.RowKit
abbrev XO(x:List UInt8):List Value:=[sv x]
theorem acW:fB XO 1:=⟨fun _=>rfl,fun x u hu=>by simp at hu;subst hu;rfl⟩
def IQ:List (List UInt8)→Nat→List (List UInt8×Value)
 | [],_=>[]
 | k::ks,i=>(k,.int .i64 (i:Nat))::IQ ks (i+1)
theorem LC:∀ (ks:List (List UInt8)) (k:List UInt8) (i:Nat),IQ (ks++[k]) i=IQ ks i++[(k,.int .i64 ((i+ks.length:Nat):Nat))]
 | [],k,i=>rfl
 | x::ks,k,i=>by rw[List.cons_append,IQ,LC ks k (i+1),IQ,List.cons_append,List.length_cons,show i+1+ks.length=i+(ks.length+1) by omega]
theorem Ej(k:List UInt8):∀ (ks:List (List UInt8)) (i:Nat),look k (IQ ks i)=(ks.idxOf? k).map fun j=>Value.int .i64 ((i+j:Nat):Nat)
 | [],i=>rfl
 | x::ks,i=>by
  rw[IQ,look,Ej k ks (i+1),List.idxOf?_cons]
  by_cases h:k=x
  ·subst h;simp
  ·have h2:(x==k)=false:=by simp;exact fun e=>h e.symm
   rw[if_neg h,h2]
   simp only[Bool.false_eq_true,if_false,Option.map_map]
   congr 1
   funext j
   simp[Nat.add_assoc,Nat.add_comm 1 j]
structure TabAt(w:World)(tb mb qB:Nat)(kv:Value)(ks:List (List UInt8)):Prop where
 box:Box w tb #[.map (some mb),kv] 284
 mp:aJ w mb (fun s:List UInt8=>sv s) (IQ ks 0)
 own:Own w qB 9 1 XO kv ks
 lt:tb<qB∧mb<qB∧tb≠mb
theorem TabAt.kept{w w':World}{tb mb qB:Nat}{kv:Value}{ks:List (List UInt8)}(h:TabAt w tb mb qB kv ks)(hb:Below w.heap.size w w'):TabAt w' tb mb qB kv ks:=⟨h.box.kept hb,h.mp.kept hb,h.own.kept hb,h.lt⟩
structure aeE(tb mb:Nat)(kv kv':Value)(w w':World):Prop where
 os:w'.os=w.os
 tape:w'.tape=w.tape
 output:w'.output=w.output
 size:w.heap.size≤w'.heap.size
 block:∀ b,b<w.heap.size→b≠tb→b≠mb→kv.ownBlock≠some b→w'.heap[b]?=w.heap[b]?
 fresh:∀ g,kv'.ownBlock=some g→kv.ownBlock=some g∨w.heap.size≤g
theorem Gn:dQ Tryz.prog 25 9 (.string ⟨#[]⟩) 1 16:=⟨Tryz.underlying25,info_parts (by kernel_rfl),rfl,by decide⟩
theorem XP(w:World):Calls Tryz.prog 154 #[] w fun e w'=>e=.returned (.pointer (some ⟨w.heap.size+1,0,none⟩))∧TabAt w' (w.heap.size+1) w.heap.size (w.heap.size+2) (.slice none 0 0) []∧w'.heap.size=w.heap.size+2∧Below w.heap.size w w':=by
 have hmm:=@run_makeMap Tryz.prog
 go_enter Tryz.func154,Tryz.ntmps154
 go_wp2
 go_ret
 have hB1:=aj w (.map #[] 0)
 refine⟨by simp,⟨Box.new' (by simp) _ _,(aJ.new w _).alloc _,Own.nil _ _ _ _ _,by omega,by omega,by omega⟩,by simp,hB1.alloc hB1.size _⟩
theorem OT(w:World):(zeroValue 3).run Tryz.prog w=.ok (.int .i64 0) w:=by
 have h:(Tryz.prog.info? 3).map (fun i=>(i.zero,i.size))=some (some (.int .i64 0),1):=by kernel_rfl
 exact(zero_of_info h).1 w
theorem XQ(tb mb qB j:Nat)(kv:Value)(ks:List (List UInt8))(k:List UInt8)(w:World)(h:TabAt w tb mb qB kv ks)(hj:ks.idxOf? k=some j) :
  Calls Tryz.prog 240 #[.pointer (some ⟨tb,0,none⟩),sv k] w fun e w'=>e=.returned (.tuple #[.int .i64 j,.bool false])∧w'=w:=by
 have hlk:=h.mp.qM mQ Tryz.underlying282 (OT w) k
 rw[Ej,hj] at hlk
 simp only[Option.map_some,Option.getD_some,Option.isSome_some,Nat.zero_add] at hlk
 have x0:w.cell? ⟨tb,0,none⟩=some (.map (some mb)):=h.box.cell 0
 have hl:=h.box.lt
 clear h hj
 go_enter Tryz.func240,Tryz.ntmps240
 go_wp2
 go_ret2
 exact⟨rfl,rfl⟩
theorem XR(tb mb qB:Nat)(kv:Value)(ks:List (List UInt8))(k:List UInt8)(w:World)(h:TabAt w tb mb qB kv ks)(hj:ks.idxOf? k=none)(hn:ks.length≤1099511627776)(hb:qB≤w.heap.size) :
  Calls Tryz.prog 240 #[.pointer (some ⟨tb,0,none⟩),sv k] w fun e w'=>e=.returned (.tuple #[.int .i64 ks.length,.bool true])∧∃ kv',TabAt w' tb mb qB kv' (ks++[k])∧aeE tb mb kv kv' w w':=by
 have hlk:=h.mp.qM mQ Tryz.underlying282 (OT w) k
 rw[Ej,hj] at hlk
 simp only[Option.map_none,Option.getD_none,Option.isSome_none] at hlk
 obtain⟨ka,kc,hkv⟩:=h.own.form
 subst hkv
 have x0:w.cell? ⟨tb,0,none⟩=some (.map (some mb)):=h.box.cell 0
 have x1:w.cell? ⟨tb,1,none⟩=some (.slice ka ks.length kc):=h.box.cell 1
 have hl:=h.box.lt
 have hlt:=h.lt
 obtain⟨w4,hput,hm4,sU,CG,CP⟩:=h.mp.rX mQ Tryz.underlying282 k (.int .i64 ks.length)
 rw[kT k _ _ (by rw[Ej,hj];rfl)] at hm4
 have hm5:aJ w4 mb (fun s:List UInt8=>sv s) (IQ (ks++[k]) 0):=by rw[LC,Nat.zero_add];exact hm4
 have XT:Box w4 tb #[.map (some mb),.slice ka ks.length kc] 284:=(sU tb hlt.2.2).trans h.box
 have hown4:=h.own.same (w':=w4) fun g hg=>sU g (by have:=(h.own.blk hg).1;omega)
 have z0:w4.cell? ⟨tb,0,none⟩=some (.map (some mb)):=XT.cell 0
 have z1:w4.cell? ⟨tb,1,none⟩=some (.slice ka ks.length kc):=XT.cell 1
 have HB4:=ah XT;have VP:=ah hm5;have HO4:=ah sU;have HBL:=ah CP;have HOW:=ah hown4
 have hws:qB≤w4.heap.size:=by omega
 clear hm4 hm5 sU CP XT hown4 hj h
 have bF:=aj w4 (.cells #[sv k] 9)
 have hnews:∀ j u,(XO k)[j]?=some u→(w4.alloc (.cells #[sv k] 9)).cell? ((⟨w.heap.size,0,none⟩:Addr).add j)=some u:=by rw[←CG];exact dD w4 [sv k] _
 have HNW:=ah hnews
 clear hnews
 go_enter Tryz.func240,Tryz.ntmps240
 go_wp2_with (at_builtin;go_must (refine eP rfl _ _ 25 rfl Gn acW rfl (HOW.out.alloc _) ⟨w.heap.size,0,none⟩ 1 k rfl HNW.out (by simp only[maxLen];omega) (by omega) (by simp only[World.size_alloc];omega) ?_;intro a7 c7 w7 iI dn ug;have hb7:=(HB4.out.alloc (.cells #[sv k] 9)).grown (HOW.out.alloc _) dn hlt.1;have q1:=hb7.cell 1;have f1:=hb7.free 1;have F9:=hb7.lt))
 go_ret2
 have hm7:aJ w7 mb (fun s:List UInt8=>sv s) (IQ (ks++[k]) 0):=(VP.out.alloc (.cells #[sv k] 9)).same (dn.block mb ((VP.out.alloc (.cells #[sv k] 9)).lt) fun e=>by
  have:=((HOW.out.alloc (.cells #[sv k] 9)).blk e.symm).1;omega)
 have hle:(ks++[k]).length=ks.length+1:=by simp
 have hs7:=dn.size
 simp only[World.size_alloc] at hs7
 refine⟨rfl,_,⟨hb7.set 1 _,hm7.other _ _ (fun e=>hlt.2.2 e.symm),iI.other _ _ hlt.1,hlt⟩,?_⟩
 have hb0:=HBL.out 0 (Nat.zero_le _)
 refine⟨dn.os.trans (bF.os.trans hb0.os),dn.tape.trans (bF.tape.trans hb0.tape),dn.output.trans (bF.output.trans hb0.output),by rw[World.size_setCell];omega,fun b hb1 h1 h2 h3=>?_,fun g hg=>?_⟩
 ·rw[heap_setCell_other _ _ b _ h1,dn.block b (by simp only[World.size_alloc];omega) (fun e=>h3 e.symm),bF.block b (by omega)]
  exact HO4.out b h2
 ·rcases ug with e | e
  ·exact .inl (e▸hg)
  ·rw[e] at hg
   cases hg
   exact .inr (by simp only[World.size_alloc];omega)
end
end Go.Proofs.YtengfapcaaacaaaGreatDoor
