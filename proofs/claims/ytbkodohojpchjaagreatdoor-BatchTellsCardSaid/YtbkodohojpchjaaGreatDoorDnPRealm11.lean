import Derived.Test.YtbkodohojpchjaaGreatDoorDnPRealm10
/-
  Realms as the document's: all orders; the same realm comes of both. Conditions: none.
-/
set_option linter.unusedVariables false
set_option linter.unusedSimpArgs false
open Go Dn
namespace Dn.S
end Dn.S
