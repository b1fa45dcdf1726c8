import Derived.Test.YtbkodohojpchjaaGreatDoorDnPShelf3
/-
  Shelves: the place of a path. Conditions: none.
-/
set_option linter.unusedVariables false
set_option linter.unusedSimpArgs false
open Go Dn
namespace Dn.S
def ag0 (L:List dX):Prop:=(∀n∈L,Hr n.Path=true)/\L.Pairwise λa b=>VX (Dk a.Path) (Dk b.Path)=true
def Xq:dX:=⟨[],[],0,0⟩
def JL (L:List dX)(p:List UInt8):Int×Int:=if Hr p then (if 0<=atI (L.map (·.Path)) p then (atI (L.map (·.Path)) p,0) else (0,6)) else (0,13)
def adn (L:List dX)(p:List UInt8):dX×Int:=if (JL L p).2=0 then ((L[(JL L p).1.toNat]?).getD Xq,0) else (Xq,(JL L p).2)
end Dn.S
