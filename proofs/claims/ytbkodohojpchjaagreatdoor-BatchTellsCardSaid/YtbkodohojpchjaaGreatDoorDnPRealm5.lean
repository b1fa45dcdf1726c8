import Derived.Test.YtbkodohojpchjaaGreatDoorDnPRealm4
/-
  Realms: who is told asked for it. Conditions: none.
-/
set_option linter.unusedVariables false
set_option linter.unusedSimpArgs false
open Go Dn
namespace Dn.S
end Dn.S
