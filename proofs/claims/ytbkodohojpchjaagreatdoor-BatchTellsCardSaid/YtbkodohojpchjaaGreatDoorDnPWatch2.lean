import Derived.Test.YtbkodohojpchjaaGreatDoorDnPWatch
/-
  Watches: which tables may be; what they come to. Conditions: none.
-/
set_option linter.unusedVariables false
set_option linter.unusedSimpArgs false
open Go Dn
namespace Dn.S
structure Zx (L:List vl):Prop where
 len:L.length<=200
 all: ∀w∈L,Hr w.Path=true/\0<=w.Client
 nodup:L.Nodup
end Dn.S
