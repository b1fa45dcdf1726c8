import Derived.Test.YtbkodohojpchjaaGreatDoorDnPPath5
/-
  Shelves: what the document says of paths; where a path stands. Conditions: none.
-/
open Go Dn
set_option linter.unusedVariables false
set_option linter.unusedSimpArgs false
namespace Dn.S
def Al (l:List (List UInt8)) (p:List UInt8):Int:=match l.findIdx? (fun x=>decide (x=p)) with
 |some k=>k
 |none=> -1
theorem Sk {l:List (List UInt8)} {p:List UInt8} {k:Nat} (hk:k<l.length) (h:l[k]=p) (hf: ∀j (hj:j<k),l[j]≠p):Al l p=k:=by
 unfold Al
 have:l.findIdx? (fun x=>decide (x=p))=some k:=by
  rw [List.findIdx?_eq_some_iff_getElem]
  exact ⟨hk,by simpa using h,fun j hj=>by simpa using hf j hj⟩
 rw [this]
end Dn.S
