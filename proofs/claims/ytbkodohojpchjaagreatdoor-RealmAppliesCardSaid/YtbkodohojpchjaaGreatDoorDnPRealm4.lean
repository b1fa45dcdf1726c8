import Derived.Test.YtbkodohojpchjaaGreatDoorDnPRealmA
/-
  Realms: whose nodes there are; a realm stays right. Conditions: none.
-/
set_option linter.unusedVariables false
set_option linter.unusedSimpArgs false
open Go Dn
namespace Dn.S
theorem agM (w:ai)(k:Int):(r6 k w).r=w.r:=by unfold r6;split<;>rfl
theorem Uj (l:List aB):aM (wK l) λb=>b=true->l.length<=30:=by
 unfold wK;refine aM.bd (P:=λr=>(r= .inl ()/\l.length<=30)\/r= .inr false) ?_ ?_
 ·refine aM.count (λk=>(k:Int)) l.length (λk=>k<=30) rfl (by omega) (λk hk hp=> ?_) (λhp=> ?_)
  ·unfold u9;rw [if_pos (by omega)];by_cases h30:(k:Int)=30
   ·rw [if_pos h30,al,if_pos rfl];exact .mk (.inr rfl)
   rw [if_neg h30,aP hk];by_cases h1:(200:Int)<(l[k].Path.length:Int)
   ·rw [if_pos h1,al,if_pos rfl];exact .mk (.inr rfl)
   rw [if_neg h1,aP hk,al];by_cases h2:(1100:Int)<(l[k].Value.length:Int)
   ·rw [decide_eq_true h2,if_pos rfl];exact .mk (.inr rfl)
   rw [decide_eq_false h2,if_neg (by decide),wrap64 (by omega) (by omega)];exact .mk ⟨by omega,by omega⟩
  ·unfold u9;rw [if_neg (by omega)];exact .mk (.inl ⟨rfl,hp⟩)
 ·rintro r (⟨rfl,h⟩|rfl)
  ·exact .mk (λ_=>h)
  ·exact .mk (λh=>by cases h)
end Dn.S
