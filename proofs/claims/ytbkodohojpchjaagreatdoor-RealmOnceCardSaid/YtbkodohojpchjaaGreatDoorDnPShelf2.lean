import Derived.Test.YtbkodohojpchjaaGreatDoorDnPShelf
/-
  Shelves: which may be, which are alike; ShelfMay. Conditions: none.
-/
open Go Dn
set_option linter.unusedVariables false
set_option linter.unusedSimpArgs false
namespace Dn.S
theorem KP {l:List (List UInt8)} {p:List UInt8} (h:0≤qg l p):(qg l p).toNat<l.length:=by
 unfold qg at h⊢
 cases hf:l.findIdx? (fun x=>decide (x=p)) with
 |none=>rw [hf] at h;simp at h
 |some k=>
  rw [List.findIdx?_eq_some_iff_getElem] at hf
  obtain ⟨hk,_⟩:=hf
  simpa using hk
def cM (p:List UInt8):List UInt8×Int:=if bm p then (if p=[47] then ([],6) else (pP (aK p).dropLast,0)) else ([],13)
def QI (L:List ae) (p:List UInt8):Bool:=decide (0≤qg (L.map (·.Path)) p)&&match L[(qg (L.map (·.Path)) p).toNat]? with
 |some y=>decide (y.bJ=0)
 |none=>false
def rZ (L:List ae) (n:ae):Bool:=if (cM n.Path).2=0 then QI L (cM n.Path).1 else decide (n.bJ=0)
def Wu (L:List ae) (k:Nat):Bool:=match L[k]? with
 |none=>false
 |some x=>(bm x.Path&&(decide (x.Value.length≤1000)&&(decide (0≤x.Version)&&(decide (x.Version≤1000000000)&&(decide (0≤x.bJ)&&rZ L x)))))&&
  (decide (k=0)||match L[k-1]? with
   |some y=>lf y.Path x.Path
   |none=>false)
def xY (L:List ae):Bool:=(decide (1≤L.length)&&decide (L.length≤200))&&(decide ((L.map (·.Path)).head? =some [47])&&(List.range L.length).all (Wu L))
end Dn.S
