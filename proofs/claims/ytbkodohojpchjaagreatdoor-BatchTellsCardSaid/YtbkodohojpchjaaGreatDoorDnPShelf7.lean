import Derived.Test.YtbkodohojpchjaaGreatDoorDnPShelf6
/-
  Shelves: which may be, in words of their nodes; ShelfDrops. Conditions: none.
-/
set_option linter.unusedVariables false
set_option linter.unusedSimpArgs false
open Go Dn
namespace Dn.S
structure VZ (L:List dX):Prop where
 len:L.length<=200
 ord:ag0 L
 root: ∃m∈L,m.Path=[47]
 zq: ∀n∈L,n.Value.length<=1000/\0<=n.Version/\n.Version<=1000000000/\0<=n.Jb
 top: ∀n∈L,n.Path=[47]->n.Jb=0
 grown: ∀n∈L,n.Path≠[47]-> ∃m∈L,m.Path=(VY n.Path).1/\m.Jb=0
def Xr (owner:Int)(n:dX):Bool:=!(decide (0<owner)&&decide (n.Jb=owner))
def iL (L:List dX)(owner:Int):List dX×List (List UInt8):=(L.filter (Xr owner),(L.filter λn=>!Xr owner n).map (·.Path))
end Dn.S
