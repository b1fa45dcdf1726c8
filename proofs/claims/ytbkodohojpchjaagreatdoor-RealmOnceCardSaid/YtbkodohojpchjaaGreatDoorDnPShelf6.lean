import Derived.Test.YtbkodohojpchjaaGreatDoorDnPShelf5
/-
  Shelves: kids, and what an owner had; ShelfKids, ShelfDrops. Conditions: none.
-/
open Go Dn
set_option linter.unusedVariables false
set_option linter.unusedSimpArgs false
namespace Dn.S
theorem BC {L:List ae} (hs:nY L) {i j:Nat} (hi:i<L.length) (hj:j<L.length) (h:(L[i]).Path=(L[j]).Path):i=j:=by
 rcases Nat.lt_trichotomy i j with h1|h1|h1
 ·have:=Ap hs hi hj h1
  rw [h,BA] at this;cases this
 ·exact h1
 ·have:=Ap hs hj hi h1
  rw [h,BA] at this;cases this
theorem Pl {L:List ae} (hs:nY L) {i:Nat} (hi:i<L.length):cV L (L[i]).Path=((i:Int),0):=by
 unfold cV
 have Ex:qg (L.map (·.Path)) (L[i]).Path=(i:Int):=GA (by simpa using hi) (by simp) (fun j hj=>by
  simp only [List.getElem_map]
  intro h
  have:=BC hs (by omega) hi h
  omega)
 rw [dP hs hi,Ex]
 simp
end Dn.S
