/- The texts of T16, in few letters (mini.py). -/
import Derived.Test.YtbemonecmmnlcaaGreatDoorU15
set_option linter.unusedVariables false
set_option linter.unusedSimpArgs false
namespace Go.Proofs.YtbemonecmmnlcaaGreatDoor
theorem xZ:∀ (L:List Lx) (x:Tr),(dR L x).2 <:+ L
 | [],x=>by rw[dR];exact List.suffix_refl _
 | a::L,x=>by
  rw[qy]
  have h:∀ y,(dR L y).2 <:+ a::L:=fun y=>(xZ L y).trans (List.suffix_cons a L)
  split;· exact h _
  split;· exact h _
  split;· exact h _
  split;· exact h _
  exact List.suffix_refl _
theorem Yq{n d:Nat}{a:Lx}{L R:List Lx}{x:Tr}(h:pX n d a L=some (.inr (x,R))):∃ b,jc n (d+1) [] L=some (.inr (x,b::R)):=by
 unfold pX at h
 split at h
 ·cases h
 ·cases hA:jc n (d+1) [] L with
  | none=>rw[hA] at h;cases h
  | some A =>
   rw[hA] at h
   cases A with
   | inl q=>cases h
   | inr p =>
    obtain⟨y,R'⟩:=p
    cases R' with
    | nil=>cases h
    | cons b R' =>
     dsimp only at h
     split at h
     ·cases h;exact⟨b,rfl⟩
     ·cases h
theorem BA:∀ n,(∀ d parts L x r,jc n d parts L=some (.inr (x,r))→r <:+ L)∧(∀ d parts L x r,jJ n d parts L=some (.inr (x,r))→r <:+ L)∧(∀ d L x r,kY n d L=some (.inr (some (x,r)))→r <:+ L∧r.length<L.length):=by
 intro n
 induction n with
 | zero=>exact⟨fun d p L x r h=>(by rw[jc] at h;cases h),fun d p L x r h=>(by rw[jJ] at h;cases h),fun d L x r h=>(by rw[kY] at h;cases h)⟩
 | succ n ih =>
  refine⟨fun d parts L x r h=>?_,fun d parts L x r h=>?_,fun d L x r h=>?_⟩
  ·rw[lQ] at h
   split at h
   ·cases h
   ·cases h
   ·rename_i y r' hy
    have h1:=ih.2.1 _ _ _ _ _ hy
    cases r' with
    | nil=>cases h;exact h1
    | cons a r' =>
     by_cases h4:a.kind=4
     ·exact(ih.1 _ _ _ _ _ ((if_pos h4).symm.trans h)).trans ((List.suffix_cons a r').trans h1)
     ·have:=(if_neg h4).symm.trans h;cases this;exact h1
  ·rw[jY] at h
   split at h
   ·cases h
   ·cases h
   ·rename_i y r' hy
    exact(ih.2.1 _ _ _ _ _ h).trans ((xZ _ _).trans (ih.2.2 _ _ _ _ hy).1)
   ·cases h;exact List.suffix_refl _
  ·cases L with
   | nil=>rw[vg] at h;cases h
   | cons a L =>
    rw[pJ] at h
    split at h
    ·cases h;exact⟨List.suffix_cons _ _,by simp⟩
    split at h
    ·cases hg:pX n d a L with
     | none=>rw[hg] at h;cases h
     | some G =>
      rw[hg] at h
      cases G with
      | inl q=>cases h
      | inr p =>
       obtain⟨y,R⟩:=p
       cases h
       obtain⟨b,hb⟩:=Yq hg
       have h1:=(List.suffix_cons b _).trans (ih.1 _ _ _ _ _ hb)
       exact⟨h1.trans (List.suffix_cons a L),by have:=h1.length_le;simp;omega⟩
    split at h;· cases h
    split at h;· cases h
    cases h
theorem aaL:∀ n,(∀ d parts L,3*L.length+3≤n→jc n d parts L≠none)∧(∀ d parts L,3*L.length+2≤n→jJ n d parts L≠none)∧(∀ d L,3*L.length+1≤n→kY n d L≠none):=by
 intro n
 induction n with
 | zero=>exact⟨fun d p L h=>(by omega),fun d p L h=>(by omega),fun d L h=>(by omega)⟩
 | succ n ih =>
  refine⟨fun d parts L hl=>?_,fun d parts L hl=>?_,fun d L hl=>?_⟩
  ·rw[lQ]
   have h1:=ih.2.1 d [] L (by omega)
   cases hp:jJ n d [] L with
   | none=>exact absurd hp h1
   | some P =>
    cases P with
    | inl q=>simp
    | inr p =>
     obtain⟨x,r⟩:=p
     have h2:=((BA n).2.1 _ _ _ _ _ hp).length_le
     cases r with
     | nil=>simp[N7]
     | cons a r =>
      show N7 n d _ (a::r)≠none
      simp only[List.length_cons] at h2
      unfold N7
      dsimp only
      split
      ·exact ih.1 _ _ _ (by omega)
      ·simp
  ·rw[jY]
   have h1:=ih.2.2 d L (by omega)
   cases hp:kY n d L with
   | none=>exact absurd hp h1
   | some P =>
    cases P with
    | inl q=>simp
    | inr o =>
     cases o with
     | none=>simp
     | some p =>
      obtain⟨x,r⟩:=p
      have h2:=((BA n).2.2 _ _ _ _ hp).2
      have h3:=(xZ r x).length_le
      exact ih.2.1 _ _ _ (by omega)
  ·cases L with
   | nil=>rw[vg];simp
   | cons a L =>
    rw[pJ]
    simp only[List.length_cons] at hl
    split;· simp
    split
    ·unfold pX
     split
     ·simp
     ·have h1:=ih.1 (d+1) [] L (by omega)
      cases hA:jc n (d+1) [] L with
      | none=>exact absurd hA h1
      | some A =>
       cases A with
       | inl q=>simp
       | inr p =>
        obtain⟨x,R⟩:=p
        cases R with
        | nil=>simp
        | cons b R =>
         dsimp only
         split <;> simp
    split;· simp
    split;· simp
    simp
theorem agN(B:Nat):∀ n,(∀ d parts L q,(∀ a∈L,a.at'≤B)→jc n d parts L=some (.inl q)→q.2≤B)∧(∀ d parts L q,(∀ a∈L,a.at'≤B)→jJ n d parts L=some (.inl q)→q.2≤B)∧(∀ d L q,(∀ a∈L,a.at'≤B)→kY n d L=some (.inl q)→q.2≤B):=by
 intro n
 induction n with
 | zero=>exact⟨fun d p L q _ h=>(by rw[jc] at h;cases h),fun d p L q _ h=>(by rw[jJ] at h;cases h),fun d L q _ h=>(by rw[kY] at h;cases h)⟩
 | succ n ih =>
  refine⟨fun d parts L q hB h=>?_,fun d parts L q hB h=>?_,fun d L q hB h=>?_⟩
  ·rw[lQ] at h
   split at h
   ·cases h
   ·rename_i q' hq;cases h;exact ih.2.1 _ _ _ _ hB hq
   ·rename_i x r hx
    have h1:=((BA n).2.1 _ _ _ _ _ hx).subset
    cases r with
    | nil=>cases h
    | cons a r =>
     by_cases h4:a.kind=4
     ·exact ih.1 _ _ _ _ (fun b hb=>hB b (h1 (List.mem_cons_of_mem _ hb))) ((if_pos h4).symm.trans h)
     ·have:=(if_neg h4).symm.trans h;cases this
  ·rw[jY] at h
   split at h
   ·cases h
   ·rename_i q' hq;cases h;exact ih.2.2 _ _ _ hB hq
   ·rename_i x r hx
    have h1:=((xZ r x).trans ((BA n).2.2 _ _ _ _ hx).1).subset
    exact ih.2.1 _ _ _ _ (fun b hb=>hB b (h1 hb)) h
   ·cases h
  ·cases L with
   | nil=>rw[vg] at h;cases h
   | cons a L =>
    have ha:=hB a (by simp)
    rw[pJ] at h
    split at h;· cases h
    split at h
    ·unfold pX at h
     split at h
     ·cases h;exact ha
     ·cases hA:jc n (d+1) [] L with
      | none=>rw[hA] at h;cases h
      | some A =>
       rw[hA] at h
       cases A with
       | inl q'=>cases h;exact ih.1 _ _ _ _ (fun b hb=>hB b (List.mem_cons_of_mem _ hb)) hA
       | inr p =>
        obtain⟨x,R⟩:=p
        cases R with
        | nil=>cases h;exact ha
        | cons b R =>
         dsimp only at h
         split at h
         ·cases h
         ·cases h;exact ha
    split at h;· cases h;exact ha
    split at h;· cases h;exact ha
    cases h
theorem aaM{l:List UInt8}{i:Nat}(hi:i<l.length):(∀ q,ng l i=.inl q→q.2≤l.length)∧(∀ x,ng l i=.inr x→x.1.at'=i):=by
 unfold ng
 dsimp only
 split;· exact⟨fun q' h=>(by cases h;simp;omega),fun x h=>(by cases h)⟩
 split;· exact⟨fun q' h=>(by cases h;simp;omega),fun x h=>(by cases h)⟩
 split;· exact⟨fun q' h=>(by cases h),fun x h=>(by cases h;rfl)⟩
 exact⟨fun q' h=>(by cases h),fun x h=>(by cases h;rfl)⟩
theorem Yr{l:List UInt8}:∀ (n i:Nat) (acc:List Lx),(∀ a∈acc,a.at'≤l.length)→(∀ q,lexFrom l n i acc=.inl q→q.2≤l.length)∧(∀ X,lexFrom l n i acc=.inr X→∀ a∈X,a.at'≤l.length):=by
 intro n
 induction n with
 | zero=>intro i acc ha;rw[lexFrom];exact⟨fun q h=>(by cases h),fun X h=>(by cases h;exact ha)⟩
 | succ n ih =>
  intro i acc ha
  rw[lexFrom]
  by_cases hi:i<l.length
  ·rw[if_pos hi]
   have h1:=aaM hi
   cases ho:ng l i with
   | inl q=>exact⟨fun q' h=>(by cases h;exact h1.1 _ ho),fun X h=>(by cases h)⟩
   | inr p =>
    obtain⟨x,j⟩:=p
    refine ih j (acc++[x]) fun a hm=>?_
    rcases List.mem_append.1 hm with hm | hm
    ·exact ha a hm
    ·rw[List.mem_singleton] at hm;subst hm
     have:=h1.2 _ ho
     simp only at this
     omega
  ·rw[if_neg hi];exact⟨fun q h=>(by cases h),fun X h=>(by cases h;exact ha)⟩
theorem aaN{l:List UInt8}(hl:l.length≤65536):(∀ q,jM l=.inl q→q.2≤65536)∧(∀ X,jM l=.inr X→∀ a∈X,a.at'≤65536):=by
 unfold jM
 rw[if_neg (by omega)]
 have h:=Yr (l:=l) (l.length+1) 0 [] (fun a h=>by simp at h)
 exact⟨fun q hq=>Nat.le_trans (h.1 q hq) hl,fun X hX a ha=>Nat.le_trans (h.2 X hX a ha) hl⟩
theorem Vl{l:List UInt8}:uG 4096 l≠none:=by
 rw[xX]
 cases hx:jM l with
 | inl q=>simp
 | inr L =>
  show Ah 4096 L≠none
  unfold Ah
  split
  ·simp
  ·have:=(aaL 4096).1 0 [] L (by omega)
   cases hA:jc 4096 0 [] L with
   | none=>exact absurd hA this
   | some A=>simp
theorem aaO{l:List UInt8}(hl:l.length≤65536){q:Nat×Nat}(h:uG 4096 l=some (.inl q)):q.2≤65536:=by
 rw[xX] at h
 have h1:=aaN hl
 cases hx:jM l with
 | inl q'=>rw[hx] at h;cases h;exact h1.1 _ hx
 | inr L =>
  rw[hx] at h
  have h2:=h1.2 _ hx
  have h:Ah 4096 L=some (.inl q):=h
  unfold Ah at h
  split at h
  ·rename_i hb
   cases h
   show(L.getD 1024 _).at'≤65536
   rw[List.getD_eq_getElem?_getD,List.getElem?_eq_getElem hb]
   exact h2 _ (List.getElem_mem hb)
  ·cases hA:jc 4096 0 [] L with
   | none=>rw[hA] at h;cases h
   | some A =>
    rw[hA] at h
    cases A with
    | inl q'=>cases h;exact(agN 65536 4096).1 _ _ _ _ h2 hA
    | inr p=>cases h
theorem Yt(have':List (List UInt8))(s:List UInt8):zF 4096 have' s≠none:=by
 rw[xY]
 cases tq have' s with
 | inl q=>simp
 | inr nm =>
  have:=Vl (l:=s.drop (nm.length+1))
  cases hp:uG 4096 (s.drop (nm.length+1)) with
  | none=>exact absurd hp this
  | some P=>simp[hp]
theorem adI{have':List (List UInt8)}{s:List UInt8}(hl:s.length≤65536){q:Nat×Nat}(h:zF 4096 have' s=some (.inl q)):q.2≤200000∧q.1≠0:=by
 rw[xY] at h
 have hk:=vY true s
 cases hh:tq have' s with
 | inl q' =>
  rw[hh] at h
  cases h
  refine⟨?_,Sv hh⟩
  unfold tq at hh
  split at hh;· cases hh;simp
  split at hh;· cases hh;simp
  split at hh;· cases hh;simp
  split at hh;· cases hh;show runFrom true s≤_;omega
  split at hh;· cases hh;simp
  cases hh
 | inr nm =>
  rw[hh] at h
  have h2:=FZ hh
  dsimp only at h
  cases hp:uG 4096 (s.drop (nm.length+1)) with
  | none=>rw[hp] at h;cases h
  | some P =>
   rw[hp] at h
   cases P with
   | inl q' =>
    cases h
    have:=aaO (by rw[List.length_drop];omega) hp
    exact⟨by show q'.2+(nm.length+1)≤_;omega,show q'.1≠0 from Ph hp⟩
   | inr x=>cases h
end Go.Proofs.YtbemonecmmnlcaaGreatDoor
