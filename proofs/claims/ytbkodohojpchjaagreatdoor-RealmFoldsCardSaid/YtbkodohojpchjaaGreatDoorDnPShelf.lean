import Derived.Test.YtbkodohojpchjaaGreatDoorDnPPath5
/-
  Shelves: what the document says of paths; where a path stands. Conditions: none.
-/
set_option linter.unusedVariables false
set_option linter.unusedSimpArgs false
open List renaming take_append_drop→c9,drop_eq_getElem_cons→sh,drop_length→AS
open Bool renaming false_eq_true→AI,not_true→AT
open Go Dn
namespace Dn.S
theorem GA (p q:List UInt8):wE p q=some (pJ p q):=by
 unfold wE pJ;rw [vv,av,vv,av];cases hp:bA p with
 |false=>simp [av]
 |true=>
  cases hq:bA q with
  |false=>simp [av]
  |true=>
   obtain ⟨_,_,hp3,_⟩:=cR hp;obtain ⟨_,_,hq3,_⟩:=cR hq;simp only [if_true,decide_true,AT,AI,if_false,av,Bool.true_and];generalize aH p=a at *;generalize aH q=b at *;obtain ⟨r,e,hr⟩: ∃r,Loop (q9 (a,0) (b,0)) 0=some r/\(match r with| .inl ()=>oc a b=decide (a.length<b.length)| .inr c=>c=oc a b):=by
    refine aO.count (λk=>(k:Int)) (min a.length b.length) (λk=>a.take k=b.take k) rfl rfl (λk hk hp=> ?_) (λhp=> ?_)
    ·have ha:k<a.length:=by omega
     have hb:k<b.length:=by omega
     have dY:oc a b=oc (a.drop k) (b.drop k):=by have:=EB (a.take k) (a.drop k) (b.drop k);rw [c9,hp,c9] at this;exact this
     rw [sh ha,sh hb] at dY;simp only [oc] at dY;unfold q9;dsimp only;rw [if_pos (by omega),av,decide_eq_true (by omega),if_pos rfl,ba ha,ba hb];by_cases h2:a[k]=b[k]
     ·simp only [h2,decide_true,AT,AI,if_false];rw [wrap64 (by omega) (by omega)];refine .mk ⟨by omega,?_⟩;rw [take_succ ha,take_succ hb,hp,h2]
     ·simp only [h2,decide_false,Bool.not_false,if_true,ba ha,ba hb];refine .mk ?_;show Op.bytesLess a[k] b[k]=oc a b;rw [dY];simp [h2]
    ·unfold q9;dsimp only;have hw:(if ((min a.length b.length:Nat):Int)<(a.length:Int) then some (decide (((min a.length b.length:Nat):Int)<(b.length:Int))) else some false)=some false:=by
      split
      ·rw [decide_eq_false (by omega)]
      ·rfl
     rw [hw,av,if_neg (by decide)];refine .mk ?_;show oc a b=decide (a.length<b.length);have:=EB (a.take (min a.length b.length)) (a.drop (min a.length b.length)) (b.drop (min a.length b.length));rw [c9,hp,c9] at this;rw [this];by_cases hlen:a.length<b.length
     ·rw [Nat.min_eq_left (by omega),AS];cases hd:b.drop a.length with
      |nil=>have:=congrArg List.length hd;rw [List.length_drop] at this;simp at this;omega
      |cons x y=>simp [oc,hlen]
     ·rw [Nat.min_eq_right (by omega),AS (l:=b)];cases hd:a.drop b.length with
      |nil=>simp [oc,hlen]
      |cons x y=>simp [oc,hlen]
   rw [e,av];cases r with
   |inl u=>dsimp only at hr⊢;rw [hr];congr 1;rw [decide_eq_decide];omega
   |inr c=>dsimp only at hr⊢;rw [hr]
@[reducible] def toR (n : ah) : aP := ⟨n.Path, n.Value, n.Version, n.b5⟩
def dp (s:aD):bE:=⟨s.L.map toR⟩
def rN (l:List (List UInt8))(p:List UInt8):Int:=match l.findIdx? (λx=>decide (x=p)) with
 |some k=>k
 |none=> -1
theorem Rj {l:List (List UInt8)}{p:List UInt8}(h: ∀x∈l,x≠p):rN l p= -1:=by
 unfold rN;have:l.findIdx? (λx=>decide (x=p))=none:=by rw [List.findIdx?_eq_none_iff];intro x hx;simpa using h x hx
 rw [this]
theorem Kh {l:List (List UInt8)}{p:List UInt8}{k:Nat}(hk:k<l.length)(h:l[k]=p)(hf: ∀j (hj:j<k),l[j]≠p):rN l p=k:=by
 unfold rN;have:l.findIdx? (λx=>decide (x=p))=some k:=by rw [List.findIdx?_eq_some_iff_getElem];exact ⟨hk,by simpa using h,λj hj=>by simpa using hf j hj⟩
 rw [this]
theorem agy (s:bE)(p:List UInt8)(hl:s.L.length<2^40):tp s p=some (rN (s.L.map (·.Path)) p):=by
 obtain ⟨r,e,hr⟩: ∃r,Loop (z6 s p) 0=some r/\(match r with| .inl ()=>rN (s.L.map (·.Path)) p= -1| .inr n=>rN (s.L.map (·.Path)) p=n):=by
  refine aO.count (λk=>(k:Int)) s.L.length (λk=> ∀j (h:j<s.L.length),j<k->(s.L[j]).Path≠p) rfl (λj _ h=>by omega) (λk hk hp=> ?_) (λhp=> ?_)
  ·unfold z6;rw [if_pos (by omega),ba hk];by_cases hh:(s.L[k]).Path=p
   ·rw [if_pos hh];refine .mk ?_;exact Kh (by simpa using hk) (by simpa using hh) (λj hj=>by simpa using hp j (by omega) hj)
   ·rw [if_neg hh,wrap64 (by omega) (by omega)];refine .mk ⟨by omega,λj h hj=> ?_⟩;by_cases ZN:j=k
    ·subst ZN;exact hh
    ·exact hp j h (by omega)
  ·unfold z6;rw [if_neg (by omega)];refine .mk ?_;refine Rj λx hx=> ?_;obtain ⟨n,hn,rfl⟩:=List.mem_map.1 hx;obtain ⟨j,hj,rfl⟩:=List.mem_iff_getElem.1 hn;exact hp j hj hj
 unfold tp;rw [e,av];cases r with
 |inl u=>dsimp only at hr⊢;rw [hr]
 |inr n=>dsimp only at hr⊢;rw [hr]
end Dn.S
