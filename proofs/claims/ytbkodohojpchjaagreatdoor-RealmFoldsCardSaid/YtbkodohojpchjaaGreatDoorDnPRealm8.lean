import Derived.Test.YtbkodohojpchjaaGreatDoorDnPRealm7
/-
  Realms: what was set is what is got. Conditions: none.
-/
set_option linter.unusedVariables false
set_option linter.unusedSimpArgs false
open Go Dn
namespace Dn.S
theorem ab2 {o:ar}(hu:bO o=some o)(h1:0<=o.Client/\o.Client<=1000)(h2:1<=o.Seq/\o.Seq<=1000000000)(h3:0<=o.Kind/\o.Kind<=11)(h4:o.Path.length<=100)(h5:o.Value.length<=1000):FL o=true:=by unfold FL mG;rw [if_pos h1.1,if_pos h1.2,if_pos h2.1,av,decide_eq_true h2.2,if_pos rfl,if_pos h3.1,if_pos h3.2,if_pos (by omega),if_pos (by omega),hu,av,av];simp
theorem GG {L:List ai}{o:ar}(hm:FL o=true)(h:((fQ L o.Client).2=false/\L.length<50)\/((fQ L o.Client).2=true/\(fQ L o.Client).1.Seq<o.Seq)):fI L o=(cY o 0,false):=by
 unfold fI;rw [hm,if_neg (by decide)];rcases h with ⟨h1,h2⟩|⟨h1,h2⟩
 ·rw [h1,if_neg (by decide),if_neg (by omega)]
 ·rw [h1,if_pos rfl,if_neg (by omega),if_neg (by omega)]
end Dn.S
