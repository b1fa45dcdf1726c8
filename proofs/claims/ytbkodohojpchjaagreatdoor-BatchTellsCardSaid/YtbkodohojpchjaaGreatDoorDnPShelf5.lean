import Derived.Test.YtbkodohojpchjaaGreatDoorDnPShelf4
/-
  Shelves: kids; ShelfAsks. Conditions: none.
-/
set_option linter.unusedVariables false
set_option linter.unusedSimpArgs false
open Go Dn
namespace Dn.S
end Dn.S
