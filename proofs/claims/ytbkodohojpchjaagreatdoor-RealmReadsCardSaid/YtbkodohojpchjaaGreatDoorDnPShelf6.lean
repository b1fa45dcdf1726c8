import Derived.Test.YtbkodohojpchjaaGreatDoorDnPShelf5
/-
  Shelves: kids, and what an owner had; ShelfKids, ShelfDrops. Conditions: none.
-/
open Go Dn
set_option linter.unusedVariables false
set_option linter.unusedSimpArgs false
namespace Dn.S
theorem Bq {L:List ae} (hs:nl L) {i j:Nat} (hi:i<L.length) (hj:j<L.length) (h:(L[i]).Path=(L[j]).Path):i=j:=by
 rcases Nat.lt_trichotomy i j with h1|h1|h1
 ·have:=z6 hs hi hj h1
  rw [h,Bo] at this;cases this
 ·exact h1
 ·have:=z6 hs hj hi h1
  rw [h,Bo] at this;cases this
theorem GD {L:List ae} (hs:nl L) {i:Nat} (hi:i<L.length):cg L (L[i]).Path=((i:Int),0):=by
 unfold cg
 have Eo:pJ (L.map (·.Path)) (L[i]).Path=(i:Int):=GA (by simpa using hi) (by simp) (fun j hj=>by
  simp only [List.getElem_map]
  intro h
  have:=Bq hs (by omega) hi h
  omega)
 rw [dJ hs hi,Eo]
 simp
theorem Sj {L:List ae} (hs:nl L) {i:Nat} (hi:i<L.length):dI L (L[i]).Path=(L[i],0):=by
 unfold dI
 rw [GD hs hi]
 simp [List.getElem?_eq_getElem hi]
end Dn.S
