import Derived.Test.YtbkodohojpchjaaGreatDoorDnD
import Derived.Test.YtbkodohojpchjaaGreatDoorDnYT
import Derived.Laws.RangeString
/-
  Names and paths: what the functions yield. Conditions: none.
-/
set_option linter.unusedVariables false
set_option linter.unusedSimpArgs false
open Go Dn
namespace Dn.S
def letters:List UInt8:=[97,98,99,100,101,102,103,104,105,106,107,108,109,110,111,112,113,114,115,116,117,118,119,120,121,122,48,49,50,51,52,53,54,55,56,57,45,95]
def adk (b:UInt8):Bool:=letters.contains b
def adl (s:List UInt8):Bool:=decide (s≠[])&&(decide (s.length<=30)&&s.all adk)
end Dn.S
