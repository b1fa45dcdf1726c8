import Derived.Test.YtbkodohojpchjaaGreatDoorDnPRealmA
/-
  Realms: whose nodes there are; a realm stays right. Conditions: none.
-/
open Go Dn
set_option linter.unusedVariables false
set_option linter.unusedSimpArgs false
namespace Dn.S
theorem aaB (w:ai) (k:Int):(qa k w).r=w.r:=by unfold qa;split<;>rfl
theorem O9 (l:List av):bq (tZ l) fun b=>b=true→l.length≤30:=by
 unfold tZ
 refine bq.bd (P:=fun r=>(r= .inl ()∧l.length≤30)∨r= .inr false) ?_ ?_
 ·refine bq.count (fun k=>(k:Int)) l.length (fun k=>k≤30) rfl (by omega) (fun k hk hp=> ?_) (fun hp=> ?_)
  ·unfold sJ
   rw [if_pos (by omega)]
   by_cases UU:(k:Int)=30
   ·rw [if_pos UU,aC,if_pos rfl];exact .mk (.inr rfl)
   rw [if_neg UU,bx hk]
   by_cases h1:(200:Int)<(l[k].Path.length:Int)
   ·rw [if_pos h1,aC,if_pos rfl];exact .mk (.inr rfl)
   rw [if_neg h1,bx hk,aC]
   by_cases h2:(1100:Int)<(l[k].Value.length:Int)
   ·rw [decide_eq_true h2,if_pos rfl];exact .mk (.inr rfl)
   rw [decide_eq_false h2,if_neg (by decide),wrap64 (by omega) (by omega)]
   exact .mk ⟨by omega,by omega⟩
  ·unfold sJ
   rw [if_neg (by omega)]
   exact .mk (.inl ⟨rfl,hp⟩)
 ·rintro r (⟨rfl,h⟩|rfl)
  ·exact .mk (fun _=>h)
  ·exact .mk (fun h=>by cases h)
noncomputable def ag6 (r:ak) (l:List av):ak:=l.foldl (fun r o=>(cm r o).1) r
end Dn.S
