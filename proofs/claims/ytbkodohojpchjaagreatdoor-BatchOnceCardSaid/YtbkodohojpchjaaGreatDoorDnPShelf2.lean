import Derived.Test.YtbkodohojpchjaaGreatDoorDnPShelf
/- Shelves: which may be, which are alike; ShelfMay. Conditions: none. -/
set_option linter.unusedVariables false
set_option linter.unusedSimpArgs false
open Go Dn
namespace Dn.S
theorem aa3 {l:List (List UInt8)}{p:List UInt8}(h:0<=EU l p):(EU l p).toNat<l.length:=by
 unfold EU at h⊢;cases hf:l.findIdx? (λx=>decide (x=p)) with
 |none=>rw [hf] at h;simp at h
 |some k=>rw [List.findIdx?_eq_some_iff_getElem] at hf;obtain ⟨hk,_⟩:=hf;simpa using hk
def fB (p:List UInt8):List UInt8×Int:=if bX p then (if p=[47] then ([],6) else (vh (aT p).dropLast,0)) else ([],13)
end Dn.S
