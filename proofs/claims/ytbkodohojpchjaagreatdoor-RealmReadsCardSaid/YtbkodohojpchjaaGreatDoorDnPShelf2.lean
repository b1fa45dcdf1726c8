import Derived.Test.YtbkodohojpchjaaGreatDoorDnPShelf
/-
  Shelves: which may be, which are alike; ShelfMay. Conditions: none.
-/
open Go Dn
set_option linter.unusedVariables false
set_option linter.unusedSimpArgs false
namespace Dn.S
theorem Kz {l:List (List UInt8)} {p:List UInt8} (h:0≤pJ l p):(pJ l p).toNat<l.length:=by
 unfold pJ at h⊢
 cases hf:l.findIdx? (fun x=>decide (x=p)) with
 |none=>rw [hf] at h;simp at h
 |some k=>
  rw [List.findIdx?_eq_some_iff_getElem] at hf
  obtain ⟨hk,_⟩:=hf
  simpa using hk
def cJ (p:List UInt8):List UInt8×Int:=if bk p then (if p=[47] then ([],6) else (pI (aL p).dropLast,0)) else ([],13)
def Qi (L:List ae) (p:List UInt8):Bool:=decide (0≤pJ (L.map (·.Path)) p)&&match L[(pJ (L.map (·.Path)) p).toNat]? with
 |some y=>decide (y.bI=0)
 |none=>false
def rT (L:List ae) (n:ae):Bool:=if (cJ n.Path).2=0 then Qi L (cJ n.Path).1 else decide (n.bI=0)
def V0 (L:List ae) (k:Nat):Bool:=match L[k]? with
 |none=>false
 |some x=>(bk x.Path&&(decide (x.Value.length≤1000)&&(decide (0≤x.Version)&&(decide (x.Version≤1000000000)&&(decide (0≤x.bI)&&rT L x)))))&&
  (decide (k=0)||match L[k-1]? with
   |some y=>lf y.Path x.Path
   |none=>false)
def xJ (L:List ae):Bool:=(decide (1≤L.length)&&decide (L.length≤200))&&(decide ((L.map (·.Path)).head? =some [47])&&(List.range L.length).all (V0 L))
end Dn.S
