import Derived.Test.YtjblhgpbkfmkoaaDnPAcc
import Derived.Test.YtjblhgpbkfmkoaaDnPReport2
/-
  Acceptors: what is entered, proposed and heard. Conditions: none.
-/
open Go Dn
set_option linter.unusedVariables false
set_option linter.unusedSimpArgs false
namespace Dn.S
theorem or_some {p q:Prop} [Decidable p] [Decidable q]:(if p then some true else some (decide q):Option Bool)=some (decide (p∨q)):=by
 by_cases hp:p<;>by_cases hq:q<;>simp [hp,hq]
def T5 (a:af) (view:Int) (value:List UInt8):Prop:=view=a.View∧ ¬(a.Has=true∧a.At=view)∧value.length≤6000
instance (a:af) (view:Int) (value:List UInt8):Decidable (T5 a view value):=inferInstanceAs (Decidable (_∧_∧_))
end Dn.S
