import Derived.Test.YtbkodohojpchjaaGreatDoorDnPShelf2
/-
  Shelves: the document's word; ShelfMay. Conditions: none.
-/
set_option linter.unusedVariables false
set_option linter.unusedSimpArgs false
open Go Dn
namespace Dn.S
end Dn.S
