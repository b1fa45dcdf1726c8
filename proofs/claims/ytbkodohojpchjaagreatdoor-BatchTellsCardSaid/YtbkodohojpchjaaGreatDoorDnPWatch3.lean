import Derived.Test.YtbkodohojpchjaaGreatDoorDnPWatch2
/-
  Watches: each fires once at most; a cancelled watch is not told. Conditions: none.
-/
set_option linter.unusedVariables false
set_option linter.unusedSimpArgs false
open Go Dn
namespace Dn.S
end Dn.S
