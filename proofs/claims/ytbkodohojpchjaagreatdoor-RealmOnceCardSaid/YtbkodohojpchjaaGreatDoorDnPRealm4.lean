import Derived.Test.YtbkodohojpchjaaGreatDoorDnPRealmA
/-
  Realms: whose nodes there are; a realm stays right. Conditions: none.
-/
open Go Dn
set_option linter.unusedVariables false
set_option linter.unusedSimpArgs false
namespace Dn.S
theorem GQ (l:List au):bu (qM l) fun b=>b=true→l.length≤30:=by
 unfold qM
 refine bu.bd (P:=fun r=>(r= .inl ()∧l.length≤30)∨r= .inr false) ?_ ?_
 ·refine bu.count (fun k=>(k:Int)) l.length (fun k=>k≤30) rfl (by omega) (fun k hk hp=> ?_) (fun hp=> ?_)
  ·unfold sQ
   rw [if_pos (by omega)]
   by_cases Ve:(k:Int)=30
   ·rw [if_pos Ve,aA,if_pos rfl];exact .mk (.inr rfl)
   rw [if_neg Ve,bt hk]
   by_cases h1:(200:Int)<(l[k].Path.length:Int)
   ·rw [if_pos h1,aA,if_pos rfl];exact .mk (.inr rfl)
   rw [if_neg h1,bt hk,aA]
   by_cases h2:(1100:Int)<(l[k].Value.length:Int)
   ·rw [decide_eq_true h2,if_pos rfl];exact .mk (.inr rfl)
   rw [decide_eq_false h2,if_neg (by decide),wrap64 (by omega) (by omega)]
   exact .mk ⟨by omega,by omega⟩
  ·unfold sQ
   rw [if_neg (by omega)]
   exact .mk (.inl ⟨rfl,hp⟩)
 ·rintro r (⟨rfl,h⟩|rfl)
  ·exact .mk (fun _=>h)
  ·exact .mk (fun h=>by cases h)
noncomputable def zM (r:ak) (l:List au):ak:=l.foldl (fun r o=>(bk r o).1) r
theorem Z6 (l:List au): ∀{r:ak},en r→en (zM r l):=by
 unfold zM
 induction l with
 |nil=>intro r h;exact h
 |cons o l ih=>intro r h;exact ih (pR h o)
end Dn.S
