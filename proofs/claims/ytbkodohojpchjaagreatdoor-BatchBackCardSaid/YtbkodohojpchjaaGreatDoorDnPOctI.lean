import Derived.Test.YtbkodohojpchjaaGreatDoorDnPOctet3
/- Rows of numbers, as bytes. Conditions: none. -/
set_option linter.unusedVariables false
set_option linter.unusedSimpArgs false
open List renaming length_cons→bB,length_append→sh,append_assoc→AI
open Go Dn
namespace Dn.S
def pP (l:List Int):List Int:=(l.map LV).flatten
@[simp] theorem CT (n : Int)(l : List Int) : pP (n :: l) = LV n ++ pP l := rfl
theorem WK (l m:List Int):pP (l++m)=pP l++pP m:=by unfold pP;simp
theorem aaN (n:Int):(LV n).length<=9:=by unfold LV;rw [AW];have:=vo (zz n);omega
theorem FR (s:List UInt8):(zi s).length<=9+s.length:=by unfold zi;rw [sh,AW,xa];have:=vo s.length;omega
theorem FU (l:List Int):(pP l).length<=9 *l.length:=by
 induction l with
 |nil=>simp [pP]
 |cons n l ih=>rw [CT,sh,bB];have:=aaN n;omega
theorem WL (l:List Int):qO (pP l):=by
 induction l with
 |nil=>intro x hx;simp [pP] at hx
 |cons n l ih=>exact (aaK n).app ih
theorem KH {b:List Int}{n:Int}{r:List Int}(h:vq b=some (n,r)):r.length<=b.length:=by
 unfold vq at h;cases ht:nu b with
 |none=>rw [ht] at h;cases h
 |some p=>obtain ⟨u,r'⟩:=p;rw [ht] at h;injection h with h;injection h with h1 h2;subst h2;exact yz ht
theorem S7 {b:List Int}{most:Nat}{s:List UInt8}{r:List Int}(h:vr b most=some (s,r)):r.length<=b.length:=by
 unfold vr at h;cases ht:nu b with
 |none=>rw [ht] at h;cases h
 |some p=>
  obtain ⟨u,r'⟩:=p;rw [ht] at h;simp only at h;split at h
  ·cases h
  ·injection h with h;injection h with h1 h2;subst h2;have:=yz ht;rw [List.length_drop];omega
def nX:Nat->List Int->Option (List Int×List Int)
 |0,b=>some ([],b)
 |k+1,b=>match vq b with
  |none=>none
  |some (n,r)=>match nX k r with
   |none=>none
   |some (l,r')=>some (n::l,r')
theorem S8: ∀(l:List Int),(∀n∈l,i64 n)-> ∀r,nX l.length (pP l++r)=some (l,r):=by
 intro l;induction l with
 |nil=>intro _ r;rfl
 |cons n l ih=>intro h r;simp only [bB,nX,CT,AI];rw [WE (h n (by simp))];simp only;rw [ih (λm hm=>h m (by simp [hm])) r]
theorem QV: ∀(k:Nat) {b:List Int},qO b-> ∀{l r:List Int},nX k b=some (l,r)->b=pP l++r/\l.length=k/\(∀n∈l,i64 n)/\qO r/\r.length<=b.length:=by
 intro k;induction k with
 |zero=>intro b hb l r h;injection h with h;injection h with h1 h2;subst h1;subst h2;exact ⟨rfl,rfl,by simp,hb,Nat.le_refl _⟩
 |succ k ih=>
  intro b hb l r h;simp only [nX] at h;cases ht:vq b with
  |none=>rw [ht] at h;cases h
  |some p=>
   obtain ⟨n,r1⟩:=p;rw [ht] at h;simp only at h;obtain ⟨e1,hn,Cq⟩:=KE hb ht;cases HK:nX k r1 with
   |none=>rw [HK] at h;cases h
   |some p2=>
    obtain ⟨l2,r2⟩:=p2;rw [HK] at h;injection h with h;injection h with h1 h2;subst h1;subst h2;obtain ⟨e2,hl,hi,hr,hle⟩:=ih Cq HK;have:=KH ht;exact ⟨by rw [CT,AI,<-e2];exact e1,by rw [bB,hl],λm hm=>by
     rcases List.mem_cons.1 hm with rfl|hm
     ·exact hn
     ·exact hi m hm,hr,by omega⟩
end Dn.S
