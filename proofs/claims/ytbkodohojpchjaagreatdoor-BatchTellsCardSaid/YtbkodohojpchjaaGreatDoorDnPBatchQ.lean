import Derived.Test.YtbkodohojpchjaaGreatDoorDnPBatch3
/-
  The live question, answered by computing (RAW=1). Conditions: none.
-/
open Go Dn
namespace Dn.S
theorem Te:o9=some true:=rfl
end Dn.S
