import Derived.Test.YtbkodohojpchjaaGreatDoorDnPPath
/-
  Paths: their names. Conditions: none.
-/
set_option linter.unusedVariables false
set_option linter.unusedSimpArgs false
open Go Dn
namespace Dn.S
section
variable {c:UInt8}
end
def Dk (p:List UInt8):List (List UInt8):=if p=[47] then [] else sC 47 (p.drop 1)
def agZ (p:List UInt8):Bool:=decide (p.head? =some 47)
def Hr (p:List UInt8):Bool:=(agZ p&&decide (p.length<=100))&&(decide ((Dk p).length<=8)&&(Dk p).all adl)
end Dn.S
