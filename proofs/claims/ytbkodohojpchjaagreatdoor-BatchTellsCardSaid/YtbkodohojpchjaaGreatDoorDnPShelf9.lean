import Derived.Test.YtbkodohojpchjaaGreatDoorDnPShelf8
/-
  Shelves: what the document says of changes; ShelfChanges. Conditions: none.
-/
set_option linter.unusedVariables false
set_option linter.unusedSimpArgs false
open Go Dn
namespace Dn.S
end Dn.S
