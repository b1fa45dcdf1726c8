import Derived.Test.YtbkodohojpchjaaGreatDoorDnPRealm5
/-
  Realms: which are right; which are alike; the last reply of a client. Conditions: none.
-/
set_option linter.unusedVariables false
set_option linter.unusedSimpArgs false
open Go Dn
namespace Dn.S
end Dn.S
