import Derived.Test.YtbkodohojpchjaaGreatDoorDnPWatch2
/-
  Watches: each fires once at most; a cancelled watch is not told. Conditions: none.
-/
open Go Dn
set_option linter.unusedVariables false
set_option linter.unusedSimpArgs false
namespace Dn.S
theorem Wp (l:List aC): ∀L:List ak,(lT L l).1=L.filter (fun w=>!l.any fun c=>q8 c w):=by
 induction l with
 |nil=>intro L;exact (List.filter_eq_self.2 fun a _=>rfl).symm
 |cons c l ih=>
  intro L
  rw [MO]
  dsimp only
  rw [ih]
  unfold tJ
  rw [List.filter_filter]
  congr 1
  funext w
  rw [List.any_cons]
  cases q8 c w<;>simp
end Dn.S
