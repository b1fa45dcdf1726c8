import Derived.Test.YtbkodohojpchjaaGreatDoorDnPShelf
/-
  Shelves: which may be, which are alike; ShelfMay. Conditions: none.
-/
set_option linter.unusedVariables false
set_option linter.unusedSimpArgs false
open Go Dn
namespace Dn.S
theorem FL {l:List (List UInt8)}{p:List UInt8}(h:0<=mD l p):(mD l p).toNat<l.length:=by
 unfold mD at h⊢;cases hf:l.findIdx? (λx=>decide (x=p)) with
 |none=>rw [hf] at h;simp at h
 |some k=>rw [List.findIdx?_eq_some_iff_getElem] at hf;obtain ⟨hk,_⟩:=hf;simpa using hk
def bS (p:List UInt8):List UInt8×Int:=if bn p then (if p=[47] then ([],6) else (lK (aE p).dropLast,0)) else ([],13)
def VL (L:List af)(p:List UInt8):Bool:=decide (0<=mD (L.map (·.Path)) p)&&match L[(mD (L.map (·.Path)) p).toNat]? with
 |some y=>decide (y.bF=0)
 |none=>false
def uv (L:List af)(n:af):Bool:=if (bS n.Path).2=0 then VL L (bS n.Path).1 else decide (n.bF=0)
def okK (L:List af)(k:Nat):Bool:=match L[k]? with
 |none=>false
 |some x=>(bn x.Path&&(decide (x.Value.length<=1000)&&(decide (0<=x.Version)&&(decide (x.Version<=1000000000)&&(decide (0<=x.bF)&&uv L x)))))&& (decide (k=0)||match L[k-1]? with
   |some y=>kD y.Path x.Path
   |none=>false)
def A0 (L:List af):Bool:=(decide (1<=L.length)&&decide (L.length<=200))&&(decide ((L.map (·.Path)).head? =some [47])&&(List.range L.length).all (okK L))
end Dn.S
