import Derived.Test.YtmdlghpieagfhaaGreatDnPAcc2
import Derived.Test.YtmdlghpieagfhaaGreatDnPOctet3
/-
  Acceptors as bytes: what lasts. Conditions: none.
-/
open Go Dn
set_option linter.unusedVariables false
set_option linter.unusedSimpArgs false
namespace Dn.S
def Wu (l:List Int):List Int:=(l.map ac4).flatten
@[simp] theorem YN (n : Int) (l : List Int) : Wu (n :: l) = ac4 n ++ Wu l := rfl
structure ac5 (p:List aa):Prop where
 len:p.length≤100
 one: ∀e∈p,∀f∈p,e.View=f.View∧e.Value=f.Value
 by_: ∀e∈p,i64 e.By
 v: ∀e∈p,i64 e.View
 x: ∀e∈p,e.Value.length≤6000
theorem ac5.nil:ac5 []:=⟨by simp,by simp,by simp,by simp,by simp⟩
end Dn.S
