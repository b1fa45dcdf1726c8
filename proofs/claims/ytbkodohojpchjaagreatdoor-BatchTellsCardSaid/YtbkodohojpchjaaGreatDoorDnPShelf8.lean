import Derived.Test.YtbkodohojpchjaaGreatDoorDnPShelf7
/-
  Shelves: what a change comes to. Conditions: none.
-/
set_option linter.unusedVariables false
set_option linter.unusedSimpArgs false
open Go Dn
namespace Dn.S
def Xs (L:List dX)(p:List UInt8)(version:Int):Int:=if (JL L p).2=0/\version≠ -1/\version≠(adn L p).1.Version then 8 else (JL L p).2
def acw (L:List dX)(p value:List UInt8)(version:Int):Int:=if Xs L p version=0 then (if (1000:Int)<(value.length:Int) then 5 else if (1000000000:Int)<=(adn L p).1.Version then 9 else 0) else Xs L p version
end Dn.S
