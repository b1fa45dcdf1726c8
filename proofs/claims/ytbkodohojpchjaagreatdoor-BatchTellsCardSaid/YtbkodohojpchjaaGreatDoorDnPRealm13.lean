import Derived.Test.YtbkodohojpchjaaGreatDoorDnPRealm12
/-
  Realms: folds of orders, in one piece and in two. Conditions: none.
-/
set_option linter.unusedVariables false
set_option linter.unusedSimpArgs false
open Go Dn
namespace Dn.S
end Dn.S
