import Derived.Test.YtbkodohojpchjaaGreatDoorDnPRealmA
/-
  Realms: whose nodes there are; a realm stays right. Conditions: none.
-/
set_option linter.unusedVariables false
set_option linter.unusedSimpArgs false
open Go Dn
namespace Dn.S
end Dn.S
