import Derived.Test.YtbkodohojpchjaaGreatDoorDnPShelf5
/-
  Shelves: kids, and what an owner had; ShelfKids, ShelfDrops. Conditions: none.
-/
open Go Dn
set_option linter.unusedVariables false
set_option linter.unusedSimpArgs false
namespace Dn.S
theorem BR {L:List ae} (hs:oT L) {i j:Nat} (hi:i<L.length) (hj:j<L.length) (h:(L[i]).Path=(L[j]).Path):i=j:=by
 rcases Nat.lt_trichotomy i j with h1|h1|h1
 ·have:=DU hs hi hj h1
  rw [h,zm] at this;cases this
 ·exact h1
 ·have:=DU hs hj hi h1
  rw [h,zm] at this;cases this
end Dn.S
