import Derived.Test.YtbkodohojpchjaaGreatDoorDnPShelf5
/- Shelves: kids, and what an owner had; ShelfKids, ShelfDrops. Conditions: none. -/
set_option linter.unusedVariables false
set_option linter.unusedSimpArgs false
open Go Dn
namespace Dn.S
theorem GY {L:List af}(hs:rI L){i j:Nat}(hi:i<L.length)(hj:j<L.length)(h:(L[i]).Path=(L[j]).Path):i=j:=by
 rcases Nat.lt_trichotomy i j with h1|h1|h1
 ·have:=JS hs hi hj h1;rw [h,DP] at this;cases this
 ·exact h1
 ·have:=JS hs hj hi h1;rw [h,DP] at this;cases this
end Dn.S
