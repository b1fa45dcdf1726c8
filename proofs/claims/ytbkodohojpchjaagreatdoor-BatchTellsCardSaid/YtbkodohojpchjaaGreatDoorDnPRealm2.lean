import Derived.Test.YtbkodohojpchjaaGreatDoorDnPRealm
/-
  Realms: what an order does. Conditions: none.
-/
set_option linter.unusedVariables false
set_option linter.unusedSimpArgs false
open Go Dn
namespace Dn.S
structure V0 (r:qe):Prop where
 shelf:VZ r.Shelf.L
 book:Zy r.acM
 table:Zx r.Xi.L
end Dn.S
