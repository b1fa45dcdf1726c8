import Derived.Test.YtbkodohojpchjaaGreatDoorDnPPath5
/-
  Shelves: what the document says of paths; where a path stands. Conditions: none.
-/
set_option linter.unusedVariables false
set_option linter.unusedSimpArgs false
open List renaming take_append_drop→c8,drop_eq_getElem_cons→sh,drop_length→AS
open Bool renaming false_eq_true→AI,not_true→AT
open Go Dn
namespace Dn.S
theorem AZ (p q:List UInt8):s4 p q=some (kD p q):=by
 unfold s4 kD;rw [vz,al,vz,al];cases hp:bn p with
 |false=>simp [al]
 |true=>
  cases hq:bn q with
  |false=>simp [al]
  |true=>
   obtain ⟨_,_,hp3,_⟩:=cQ hp;obtain ⟨_,_,hq3,_⟩:=cQ hq;simp only [if_true,decide_true,AT,AI,if_false,al,Bool.true_and];generalize aE p=a at *;generalize aE q=b at *;obtain ⟨r,e,hr⟩: ∃r,Loop (qX (a,0) (b,0)) 0=some r/\(match r with| .inl ()=>nH a b=decide (a.length<b.length)| .inr c=>c=nH a b):=by
    refine aM.count (λk=>(k:Int)) (min a.length b.length) (λk=>a.take k=b.take k) rfl rfl (λk hk hp=> ?_) (λhp=> ?_)
    ·have ha:k<a.length:=by omega
     have hb:k<b.length:=by omega
     have dK:nH a b=nH (a.drop k) (b.drop k):=by have:=EK (a.take k) (a.drop k) (b.drop k);rw [c8,hp,c8] at this;exact this
     rw [sh ha,sh hb] at dK;simp only [nH] at dK;unfold qX;dsimp only;rw [if_pos (by omega),al,decide_eq_true (by omega),if_pos rfl,aP ha,aP hb];by_cases h2:a[k]=b[k]
     ·simp only [h2,decide_true,AT,AI,if_false];rw [wrap64 (by omega) (by omega)];refine .mk ⟨by omega,?_⟩;rw [take_succ ha,take_succ hb,hp,h2]
     ·simp only [h2,decide_false,Bool.not_false,if_true,aP ha,aP hb];refine .mk ?_;show Op.bytesLess a[k] b[k]=nH a b;rw [dK];simp [h2]
    ·unfold qX;dsimp only;have hw:(if ((min a.length b.length:Nat):Int)<(a.length:Int) then some (decide (((min a.length b.length:Nat):Int)<(b.length:Int))) else some false)=some false:=by
      split
      ·rw [decide_eq_false (by omega)]
      ·rfl
     rw [hw,al,if_neg (by decide)];refine .mk ?_;show nH a b=decide (a.length<b.length);have:=EK (a.take (min a.length b.length)) (a.drop (min a.length b.length)) (b.drop (min a.length b.length));rw [c8,hp,c8] at this;rw [this];by_cases hlen:a.length<b.length
     ·rw [Nat.min_eq_left (by omega),AS];cases hd:b.drop a.length with
      |nil=>have:=congrArg List.length hd;rw [List.length_drop] at this;simp at this;omega
      |cons x y=>simp [nH,hlen]
     ·rw [Nat.min_eq_right (by omega),AS (l:=b)];cases hd:a.drop b.length with
      |nil=>simp [nH,hlen]
      |cons x y=>simp [nH,hlen]
   rw [e,al];cases r with
   |inl u=>dsimp only at hr⊢;rw [hr];congr 1;rw [decide_eq_decide];omega
   |inr c=>dsimp only at hr⊢;rw [hr]
@[reducible] def toR (n : af) : aY := ⟨n.Path, n.Value, n.Version, n.bF⟩
def ch (s:aA):bE:=⟨s.L.map toR⟩
def mD (l:List (List UInt8))(p:List UInt8):Int:=match l.findIdx? (λx=>decide (x=p)) with
 |some k=>k
 |none=> -1
theorem Ro {l:List (List UInt8)}{p:List UInt8}(h: ∀x∈l,x≠p):mD l p= -1:=by
 unfold mD;have:l.findIdx? (λx=>decide (x=p))=none:=by rw [List.findIdx?_eq_none_iff];intro x hx;simpa using h x hx
 rw [this]
theorem Kc {l:List (List UInt8)}{p:List UInt8}{k:Nat}(hk:k<l.length)(h:l[k]=p)(hf: ∀j (hj:j<k),l[j]≠p):mD l p=k:=by
 unfold mD;have:l.findIdx? (λx=>decide (x=p))=some k:=by rw [List.findIdx?_eq_some_iff_getElem];exact ⟨hk,by simpa using h,λj hj=>by simpa using hf j hj⟩
 rw [this]
theorem abQ (s:bE)(p:List UInt8)(hl:s.L.length<2^40):nh s p=some (mD (s.L.map (·.Path)) p):=by
 obtain ⟨r,e,hr⟩: ∃r,Loop (Aj s p) 0=some r/\(match r with| .inl ()=>mD (s.L.map (·.Path)) p= -1| .inr n=>mD (s.L.map (·.Path)) p=n):=by
  refine aM.count (λk=>(k:Int)) s.L.length (λk=> ∀j (h:j<s.L.length),j<k->(s.L[j]).Path≠p) rfl (λj _ h=>by omega) (λk hk hp=> ?_) (λhp=> ?_)
  ·unfold Aj;rw [if_pos (by omega),aP hk];by_cases hh:(s.L[k]).Path=p
   ·rw [if_pos hh];refine .mk ?_;exact Kc (by simpa using hk) (by simpa using hh) (λj hj=>by simpa using hp j (by omega) hj)
   ·rw [if_neg hh,wrap64 (by omega) (by omega)];refine .mk ⟨by omega,λj h hj=> ?_⟩;by_cases WM:j=k
    ·subst WM;exact hh
    ·exact hp j h (by omega)
  ·unfold Aj;rw [if_neg (by omega)];refine .mk ?_;refine Ro λx hx=> ?_;obtain ⟨n,hn,rfl⟩:=List.mem_map.1 hx;obtain ⟨j,hj,rfl⟩:=List.mem_iff_getElem.1 hn;exact hp j hj hj
 unfold nh;rw [e,al];cases r with
 |inl u=>dsimp only at hr⊢;rw [hr]
 |inr n=>dsimp only at hr⊢;rw [hr]
end Dn.S
