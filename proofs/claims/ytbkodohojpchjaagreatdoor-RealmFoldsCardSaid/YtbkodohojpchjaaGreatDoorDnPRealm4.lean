import Derived.Test.YtbkodohojpchjaaGreatDoorDnPRealmA
/-
  Realms: whose nodes there are; a realm stays right. Conditions: none.
-/
set_option linter.unusedVariables false
set_option linter.unusedSimpArgs false
open Go Dn
namespace Dn.S
theorem agB (w:aj)(k:Int):(sd k w).r=w.r:=by unfold sd;split<;>rfl
theorem TZ (l:List ar):aO (wC l) λb=>b=true->l.length<=30:=by
 unfold wC;refine aO.bd (P:=λr=>(r= .inl ()/\l.length<=30)\/r= .inr false) ?_ ?_
 ·refine aO.count (λk=>(k:Int)) l.length (λk=>k<=30) rfl (by omega) (λk hk hp=> ?_) (λhp=> ?_)
  ·unfold vc;rw [if_pos (by omega)];by_cases ZY:(k:Int)=30
   ·rw [if_pos ZY,av,if_pos rfl];exact .mk (.inr rfl)
   rw [if_neg ZY,ba hk];by_cases h1:(200:Int)<(l[k].Path.length:Int)
   ·rw [if_pos h1,av,if_pos rfl];exact .mk (.inr rfl)
   rw [if_neg h1,ba hk,av];by_cases h2:(1100:Int)<(l[k].Value.length:Int)
   ·rw [decide_eq_true h2,if_pos rfl];exact .mk (.inr rfl)
   rw [decide_eq_false h2,if_neg (by decide),wrap64 (by omega) (by omega)];exact .mk ⟨by omega,by omega⟩
  ·unfold vc;rw [if_neg (by omega)];exact .mk (.inl ⟨rfl,hp⟩)
 ·rintro r (⟨rfl,h⟩|rfl)
  ·exact .mk (λ_=>h)
  ·exact .mk (λh=>by cases h)
noncomputable def amH (r:ap)(l:List ar):ap:=l.foldl (λr o=>(dV r o).1) r
end Dn.S
