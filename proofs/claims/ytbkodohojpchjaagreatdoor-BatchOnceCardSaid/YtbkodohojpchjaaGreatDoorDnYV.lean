import Derived.Test.YtbkodohojpchjaaGreatDoorDnYT
import Derived.Test.YtbkodohojpchjaaGreatDoorDnD
/- Bounded rounds. Conditions: none. -/
set_option linter.unusedVariables false
set_option linter.unusedSimpArgs false
open Go Dn
set_option maxRecDepth 100000
namespace Dn.S
end Dn.S
