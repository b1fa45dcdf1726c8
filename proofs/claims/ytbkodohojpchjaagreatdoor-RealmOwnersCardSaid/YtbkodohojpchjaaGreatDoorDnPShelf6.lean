import Derived.Test.YtbkodohojpchjaaGreatDoorDnPShelf5
/-
  Shelves: kids, and what an owner had; ShelfKids, ShelfDrops. Conditions: none.
-/
open Go Dn
set_option linter.unusedVariables false
set_option linter.unusedSimpArgs false
namespace Dn.S
theorem zZ {L:List ae} (hs:nB L) {i j:Nat} (hi:i<L.length) (hj:j<L.length) (h:(L[i]).Path=(L[j]).Path):i=j:=by
 rcases Nat.lt_trichotomy i j with h1|h1|h1
 ·have:=yV hs hi hj h1
  rw [h,zY] at this;cases this
 ·exact h1
 ·have:=yV hs hj hi h1
  rw [h,zY] at this;cases this
theorem MH {L:List ae} (hs:nB L) {i:Nat} (hi:i<L.length):cG L (L[i]).Path=((i:Int),0):=by
 unfold cG
 have Gh:tH (L.map (·.Path)) (L[i]).Path=(i:Int):=EN (by simpa using hi) (by simp) (fun j hj=>by
  simp only [List.getElem_map]
  intro h
  have:=zZ hs (by omega) hi h
  omega)
 rw [dr hs hi,Gh]
 simp
end Dn.S
