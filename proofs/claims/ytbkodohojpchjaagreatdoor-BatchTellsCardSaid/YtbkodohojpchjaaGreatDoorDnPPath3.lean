import Derived.Test.YtbkodohojpchjaaGreatDoorDnPPath2
/-
  Paths: what the document says; PathTells. Conditions: none.
-/
set_option linter.unusedVariables false
set_option linter.unusedSimpArgs false
open Go Dn
namespace Dn.S
def adm (l:List (List UInt8)):List UInt8:=if l=[] then [47] else l.flatMap (47::·)
end Dn.S
