import Derived.Test.YtbkodohojpchjaaGreatDoorDnPRealm8
/-
  Realms as the document's: sessions, orders, replies. Conditions: none.
-/
set_option linter.unusedVariables false
set_option linter.unusedSimpArgs false
open Go Dn
namespace Dn.S
section
variable {α β:Type}{key:α->Int}
end
end Dn.S
