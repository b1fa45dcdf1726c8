import Derived.Test.YtbkodohojpchjaaGreatDoorDnPOctet3
/- Rows of numbers, as bytes. Conditions: none. -/
set_option linter.unusedVariables false
set_option linter.unusedSimpArgs false
open List renaming length_cons→bN,length_append→sh,append_assoc→AI
open Go Dn
namespace Dn.S
def pR (l:List Int):List Int:=(l.map Lf).flatten
@[simp] theorem CC (n : Int)(l : List Int) : pR (n :: l) = Lf n ++ pR l := rfl
theorem Xl (l m:List Int):pR (l++m)=pR l++pR m:=by unfold pR;simp
theorem abE (n:Int):(Lf n).length<=9:=by unfold Lf;rw [AD];have:=vl (zz n);omega
theorem E6 (s:List UInt8):(yR s).length<=9+s.length:=by unfold yR;rw [sh,AD,w9];have:=vl s.length;omega
theorem E7 (l:List Int):(pR l).length<=9 *l.length:=by
 induction l with
 |nil=>simp [pR]
 |cons n l ih=>rw [CC,sh,bN];have:=abE n;omega
theorem Xm (l:List Int):rh (pR l):=by
 induction l with
 |nil=>intro x hx;simp [pR] at hx
 |cons n l ih=>exact (abB n).app ih
theorem Kf {b:List Int}{n:Int}{r:List Int}(h:vo b=some (n,r)):r.length<=b.length:=by
 unfold vo at h;cases ht:mV b with
 |none=>rw [ht] at h;cases h
 |some p=>obtain ⟨u,r'⟩:=p;rw [ht] at h;injection h with h;injection h with h1 h2;subst h2;exact yp ht
theorem Ta {b:List Int}{most:Nat}{s:List UInt8}{r:List Int}(h:vq b most=some (s,r)):r.length<=b.length:=by
 unfold vq at h;cases ht:mV b with
 |none=>rw [ht] at h;cases h
 |some p=>
  obtain ⟨u,r'⟩:=p;rw [ht] at h;simp only at h;split at h
  ·cases h
  ·injection h with h;injection h with h1 h2;subst h2;have:=yp ht;rw [List.length_drop];omega
def oe:Nat->List Int->Option (List Int×List Int)
 |0,b=>some ([],b)
 |k+1,b=>match vo b with
  |none=>none
  |some (n,r)=>match oe k r with
   |none=>none
   |some (l,r')=>some (n::l,r')
theorem Tb: ∀(l:List Int),(∀n∈l,i64 n)-> ∀r,oe l.length (pR l++r)=some (l,r):=by
 intro l;induction l with
 |nil=>intro _ r;rfl
 |cons n l ih=>intro h r;simp only [bN,oe,CC,AI];rw [Xh (h n (by simp))];simp only;rw [ih (λm hm=>h m (by simp [hm])) r]
theorem QZ: ∀(k:Nat) {b:List Int},rh b-> ∀{l r:List Int},oe k b=some (l,r)->b=pR l++r/\l.length=k/\(∀n∈l,i64 n)/\rh r/\r.length<=b.length:=by
 intro k;induction k with
 |zero=>intro b hb l r h;injection h with h;injection h with h1 h2;subst h1;subst h2;exact ⟨rfl,rfl,by simp,hb,Nat.le_refl _⟩
 |succ k ih=>
  intro b hb l r h;simp only [oe] at h;cases ht:vo b with
  |none=>rw [ht] at h;cases h
  |some p=>
   obtain ⟨n,r1⟩:=p;rw [ht] at h;simp only at h;obtain ⟨e1,hn,DZ⟩:=Kb hb ht;cases GO:oe k r1 with
   |none=>rw [GO] at h;cases h
   |some p2=>
    obtain ⟨l2,r2⟩:=p2;rw [GO] at h;injection h with h;injection h with h1 h2;subst h1;subst h2;obtain ⟨e2,hl,hi,hr,hle⟩:=ih DZ GO;have:=Kf ht;exact ⟨by rw [CC,AI,<-e2];exact e1,by rw [bN,hl],λm hm=>by
     rcases List.mem_cons.1 hm with rfl|hm
     ·exact hn
     ·exact hi m hm,hr,by omega⟩
end Dn.S
