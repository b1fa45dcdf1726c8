import Derived.Test.YtbkodohojpchjaaGreatDoorDnPShelf
/-
  Shelves: which may be, which are alike; ShelfMay. Conditions: none.
-/
open Go Dn
set_option linter.unusedVariables false
set_option linter.unusedSimpArgs false
namespace Dn.S
theorem Sl {l:List (List UInt8)} {p:List UInt8} (h:0≤Al l p):(Al l p).toNat<l.length:=by
 unfold Al at h⊢
 cases hf:l.findIdx? (fun x=>decide (x=p)) with
 |none=>rw [hf] at h;simp at h
 |some k=>
  rw [List.findIdx?_eq_some_iff_getElem] at hf
  obtain ⟨hk,_⟩:=hf
  simpa using hk
def ez (p:List UInt8):List UInt8×Int:=if bJ p then (if p=[47] then ([],6) else (rq (aM p).dropLast,0)) else ([],13)
end Dn.S
