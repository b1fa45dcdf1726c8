import Derived.Test.YtmdlghpieagfhaaGreatDnPTally2
import Derived.Test.YtmdlghpieagfhaaGreatDnPSize
/-
  Commit proofs: what is right is as the document says. Conditions: none.
-/
open Go Dn
set_option linter.unusedVariables false
set_option linter.unusedSimpArgs false
namespace Dn.S
structure Th (s:af) (p:List aa):Prop where
 sz:cX s
 len:(p.length:Int)=2 *s.F+s.T+1
 Cn:sE p
 by_: ∀e∈p,e.By<vl s
 one: ∀e∈p,∀f∈p,e.View=f.View∧e.Value=f.Value
end Dn.S
