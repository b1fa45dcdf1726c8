import Derived.Test.YtbkodohojpchjaaGreatDoorDnPRealm7
/-
  Realms: what was set is what is got. Conditions: none.
-/
set_option linter.unusedVariables false
set_option linter.unusedSimpArgs false
open Go Dn
namespace Dn.S
theorem SW {o:ab}(hu:aK o=some o)(h1:0<=o.Client/\o.Client<=1000)(h2:1<=o.Seq/\o.Seq<=1000000000)(h3:0<=o.Kind/\o.Kind<=11)(h4:o.Path.length<=100)(h5:o.Value.length<=1000):SV o=true:=by unfold SV cE;rw [if_pos h1.1,if_pos h1.2,if_pos h2.1,aL,decide_eq_true h2.2,if_pos rfl,if_pos h3.1,if_pos h3.2,if_pos (by omega),if_pos (by omega),hu,aL,aL];simp
end Dn.S
