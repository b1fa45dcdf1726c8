import Derived.Test.YtbkodohojpchjaaGreatDoorDnPPath5
/-
  Shelves: what the document says of paths; where a path stands. Conditions: none.
-/
open Go Dn
set_option linter.unusedVariables false
set_option linter.unusedSimpArgs false
namespace Dn.S
def tH (l:List (List UInt8)) (p:List UInt8):Int:=match l.findIdx? (fun x=>decide (x=p)) with
 |some k=>k
 |none=> -1
theorem Tn {l:List (List UInt8)} {p:List UInt8} (h: ∀x∈l,x≠p):tH l p= -1:=by
 unfold tH
 have:l.findIdx? (fun x=>decide (x=p))=none:=by
  rw [List.findIdx?_eq_none_iff]
  intro x hx;simpa using h x hx
 rw [this]
theorem EN {l:List (List UInt8)} {p:List UInt8} {k:Nat} (hk:k<l.length) (h:l[k]=p) (hf: ∀j (hj:j<k),l[j]≠p):tH l p=k:=by
 unfold tH
 have:l.findIdx? (fun x=>decide (x=p))=some k:=by
  rw [List.findIdx?_eq_some_iff_getElem]
  exact ⟨hk,by simpa using h,fun j hj=>by simpa using hf j hj⟩
 rw [this]
theorem To (l:List ae) (f:ae→Option Bool) (p:List UInt8) (hf: ∀x,f x=some (decide (x.Path=p))) (hl:l.length<2^40):cA l f=some (tH (l.map (·.Path)) p):=by
 obtain ⟨r,e,hr⟩: ∃r,Loop (cU l f) 0=some r∧(match r with| .inl ()=>tH (l.map (·.Path)) p= -1| .inr n=>tH (l.map (·.Path)) p=n):=by
  refine bK.count (fun k=>(k:Int)) l.length (fun k=> ∀j (h:j<l.length),j<k→(l[j]).Path≠p) rfl (fun j _ h=>by omega) (fun k hk hp=> ?_) (fun hp=> ?_)
  ·unfold cU
   rw [if_pos (by omega),cg hk,hf,aM]
   by_cases hh:(l[k]).Path=p
   ·rw [decide_eq_true hh,if_pos rfl]
    refine .mk ?_
    exact EN (by simpa using hk) (by simpa using hh) (fun j hj=>by simpa using hp j (by omega) hj)
   ·rw [decide_eq_false hh,if_neg (by decide),wrap64 (by omega) (by omega)]
    refine .mk ⟨by omega,fun j h hj=> ?_⟩
    by_cases Xi:j=k
    ·subst Xi;exact hh
    ·exact hp j h (by omega)
  ·unfold cU
   rw [if_neg (by omega)]
   refine .mk ?_
   refine Tn fun x hx=> ?_
   obtain ⟨n,hn,rfl⟩:=List.mem_map.1 hx
   obtain ⟨j,hj,rfl⟩:=List.mem_iff_getElem.1 hn
   exact hp j hj hj
 unfold cA
 rw [e,aM]
 cases r with
 |inl u=>dsimp only at hr⊢;rw [hr]
 |inr n=>dsimp only at hr⊢;rw [hr]
end Dn.S
