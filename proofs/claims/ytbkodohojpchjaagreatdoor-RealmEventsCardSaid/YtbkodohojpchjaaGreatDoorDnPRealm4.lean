import Derived.Test.YtbkodohojpchjaaGreatDoorDnPRealmA
/-
  Realms: whose nodes there are; a realm stays right. Conditions: none.
-/
open Go Dn
set_option linter.unusedVariables false
set_option linter.unusedSimpArgs false
namespace Dn.S
theorem LI (l:List av):bV (sD l) fun b=>b=true→l.length≤30:=by
 unfold sD
 refine bV.bd (P:=fun r=>(r= .inl ()∧l.length≤30)∨r= .inr false) ?_ ?_
 ·refine bV.count (fun k=>(k:Int)) l.length (fun k=>k≤30) rfl (by omega) (fun k hk hp=> ?_) (fun hp=> ?_)
  ·unfold q0
   rw [if_pos (by omega)]
   by_cases Rg:(k:Int)=30
   ·rw [if_pos Rg,aR,if_pos rfl];exact .mk (.inr rfl)
   rw [if_neg Rg,cg hk]
   by_cases h1:(200:Int)<(l[k].Path.length:Int)
   ·rw [if_pos h1,aR,if_pos rfl];exact .mk (.inr rfl)
   rw [if_neg h1,cg hk,aR]
   by_cases h2:(1100:Int)<(l[k].Value.length:Int)
   ·rw [decide_eq_true h2,if_pos rfl];exact .mk (.inr rfl)
   rw [decide_eq_false h2,if_neg (by decide),wrap64 (by omega) (by omega)]
   exact .mk ⟨by omega,by omega⟩
  ·unfold q0
   rw [if_neg (by omega)]
   exact .mk (.inl ⟨rfl,hp⟩)
 ·rintro r (⟨rfl,h⟩|rfl)
  ·exact .mk (fun _=>h)
  ·exact .mk (fun h=>by cases h)
noncomputable def iA (r:au) (l:List av):au:=l.foldl (fun r o=>(jb r o).1) r
theorem Vv (l:List av): ∀{r:au},kP r→kP (iA r l):=by
 unfold iA
 induction l with
 |nil=>intro r h;exact h
 |cons o l ih=>intro r h;exact ih (zt h o)
def JR (r:au) (k:Int):(List ae)×Int×(List ar)×(List ak)×(List ai)×Int:=(r.Shelf.L,r.bM.fQ,r.bM.L,r.bk.L,r.Seen,k)
end Dn.S
