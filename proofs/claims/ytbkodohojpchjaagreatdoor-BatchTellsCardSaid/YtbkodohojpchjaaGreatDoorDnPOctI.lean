import Derived.Test.YtbkodohojpchjaaGreatDoorDnPOctet3
/-
  Rows of numbers, as bytes. Conditions: none.
-/
set_option linter.unusedVariables false
set_option linter.unusedSimpArgs false
open List renaming length_append→aQ,length_cons→sh
open Go Dn
namespace Dn.S
def iQ (l:List Int):List Int:=(l.map Eh).flatten
@[simp] theorem Dd (n : Int)(l : List Int) : iQ (n :: l) = Eh n ++ iQ l := rfl
theorem FO (l m:List Int):iQ (l++m)=iQ l++iQ m:=by unfold iQ;simp
theorem SQ (n:Int):(Eh n).length<=9:=by unfold Eh;rw [pB];have:=jQ (zz n);omega
theorem uf (s:List UInt8):(xn s).length<=9+s.length:=by unfold xn;rw [aQ,pB,pC];have:=jQ s.length;omega
theorem pD (l:List Int):(iQ l).length<=9 *l.length:=by
 induction l with
 |nil=>simp [iQ]
 |cons n l ih=>rw [Dd,aQ,sh];have:=SQ n;omega
theorem OS (l:List Int):ju (iQ l):=by
 induction l with
 |nil=>intro x hx;simp [iQ] at hx
 |cons n l ih=>exact (SJ n).app ih
theorem vH {b:List Int}{n:Int}{r:List Int}(h:lg b=some (n,r)):r.length<=b.length:=by
 unfold lg at h;cases ht:fY b with
 |none=>rw [ht] at h;cases h
 |some p=>obtain ⟨u,r'⟩:=p;rw [ht] at h;injection h with h;injection h with h1 h2;subst h2;exact kz ht
theorem De {b:List Int}{most:Nat}{s:List UInt8}{r:List Int}(h:qX b most=some (s,r)):r.length<=b.length:=by
 unfold qX at h;cases ht:fY b with
 |none=>rw [ht] at h;cases h
 |some p=>
  obtain ⟨u,r'⟩:=p;rw [ht] at h;simp only at h;split at h
  ·cases h
  ·injection h with h;injection h with h1 h2;subst h2;have:=kz ht;rw [List.length_drop];omega
def iD:Nat->List Int->Option (List Int×List Int)
 |0,b=>some ([],b)
 |k+1,b=>match lg b with
  |none=>none
  |some (n,r)=>match iD k r with
   |none=>none
   |some (l,r')=>some (n::l,r')
theorem zn: ∀(k:Nat) {b:List Int},ju b-> ∀{l r:List Int},iD k b=some (l,r)->b=iQ l++r/\l.length=k/\(∀n∈l,i64 n)/\ju r/\r.length<=b.length:=by
 intro k;induction k with
 |zero=>intro b hb l r h;injection h with h;injection h with h1 h2;subst h1;subst h2;exact ⟨rfl,rfl,by simp,hb,Nat.le_refl _⟩
 |succ k ih=>
  intro b hb l r h;simp only [iD] at h;cases ht:lg b with
  |none=>rw [ht] at h;cases h
  |some p=>
   obtain ⟨n,r1⟩:=p;rw [ht] at h;simp only at h;obtain ⟨e1,hn,xw⟩:=vE hb ht;cases z8:iD k r1 with
   |none=>rw [z8] at h;cases h
   |some p2=>
    obtain ⟨l2,r2⟩:=p2;rw [z8] at h;injection h with h;injection h with h1 h2;subst h1;subst h2;obtain ⟨e2,hl,hi,hr,hle⟩:=ih xw z8;have:=vH ht;exact ⟨by rw [Dd,List.append_assoc,<-e2];exact e1,by rw [sh,hl],λm hm=>by
     rcases List.mem_cons.1 hm with rfl|hm
     ·exact hn
     ·exact hi m hm,hr,by omega⟩
end Dn.S
