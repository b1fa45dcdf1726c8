import Derived.Test.YtbkodohojpchjaaGreatDoorDnPPath4
/-
  Paths: PathJoins, PathMade. Conditions: none.
-/
set_option linter.unusedVariables false
set_option linter.unusedSimpArgs false
open Go Dn
namespace Dn.S
end Dn.S
