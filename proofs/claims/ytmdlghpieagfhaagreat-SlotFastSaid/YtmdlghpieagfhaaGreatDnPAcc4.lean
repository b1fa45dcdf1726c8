import Derived.Test.YtmdlghpieagfhaaGreatDnPAcc3
/-
  Acceptors that are loaded. Conditions: none.
-/
open Go Dn
set_option linter.unusedVariables false
set_option linter.unusedSimpArgs false
namespace Dn.S
def tx (y:Int):aa:=⟨y,0,[]⟩
def Hm (s:af) (me:Int):Prop:=cX s∧0≤me∧me<vl s
end Dn.S
