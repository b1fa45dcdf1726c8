import Derived.Test.YtbkodohojpchjaaGreatDoorDnPPath4
/-
  Paths: PathJoins, PathMade. Conditions: none.
-/
open Go Dn
set_option linter.unusedVariables false
set_option linter.unusedSimpArgs false
namespace Dn.S
end Dn.S
