import Derived.Test.YtbkodohojpchjaaGreatDoorDnPShelf
/-
  Shelves: which may be, which are alike; ShelfMay. Conditions: none.
-/
set_option linter.unusedVariables false
set_option linter.unusedSimpArgs false
open Go Dn
namespace Dn.S
def VY (p:List UInt8):List UInt8×Int:=if Hr p then (if p=[47] then ([],6) else (adm (Dk p).dropLast,0)) else ([],13)
end Dn.S
