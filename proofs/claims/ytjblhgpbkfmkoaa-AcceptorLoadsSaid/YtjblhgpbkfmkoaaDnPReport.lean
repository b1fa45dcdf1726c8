import Derived.Test.YtjblhgpbkfmkoaaDnPProof
import Derived.Test.YtjblhgpbkfmkoaaDnYV
/-
  Certificates: what may be, and what binds. Conditions: none.
-/
open Go Dn
set_option linter.unusedVariables false
set_option linter.unusedSimpArgs false
namespace Dn.S
def O3 (p:List ab):Int×List UInt8×Bool:=match p with|[]=>(-1,[],false)|e::_=>(e.View,e.Value,true)
theorem FL (p:List ab):jH p=some (O3 p):=by
 cases p with
 |nil=>rfl
 |cons e r=>
  unfold jH O3
  rw [if_neg (by simp;omega)]
  rfl
end Dn.S
