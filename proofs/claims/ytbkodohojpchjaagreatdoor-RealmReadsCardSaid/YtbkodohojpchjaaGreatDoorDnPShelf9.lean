import Derived.Test.YtbkodohojpchjaaGreatDoorDnPShelf8
/-
  Shelves: what the document says of changes; ShelfChanges. Conditions: none.
-/
open Go Dn
set_option linter.unusedVariables false
set_option linter.unusedSimpArgs false
namespace Dn.S
end Dn.S
