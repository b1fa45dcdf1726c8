import Derived.Test.YtbkodohojpchjaaGreatDoorDnPPath5
/- Shelves: what the document says of paths; where a path. Conditions: none. -/
set_option linter.unusedVariables false
set_option linter.unusedSimpArgs false
open Go Dn
namespace Dn.S
def EU (l:List (List UInt8))(p:List UInt8):Int:=match l.findIdx? (λx=>decide (x=p)) with
 |some k=>k
 |none=> -1
theorem aa2 {l:List (List UInt8)}{p:List UInt8}{k:Nat}(hk:k<l.length)(h:l[k]=p)(hf: ∀j (hj:j<k),l[j]≠p):EU l p=k:=by
 unfold EU;have:l.findIdx? (λx=>decide (x=p))=some k:=by rw [List.findIdx?_eq_some_iff_getElem];exact ⟨hk,by simpa using h,λj hj=>by simpa using hf j hj⟩
 rw [this]
end Dn.S
