import Derived.Test.YtbkodohojpchjaaGreatDoorDnPRealm6
/-
  Realms: an order that was answered is answered alike. Conditions: none.
-/
set_option linter.unusedVariables false
set_option linter.unusedSimpArgs false
open Go Dn
namespace Dn.S
end Dn.S
