import Derived.Test.YtbkodohojpchjaaGreatDoorDnPPath4
/-
  Paths: PathJoins, PathMade. Conditions: none.
-/
set_option linter.unusedVariables false
set_option linter.unusedSimpArgs false
open Bool renaming and_eq_true→c9
open Go Dn
namespace Dn.S
theorem Xj (q:List UInt8):bA q=true↔lQ q=true/\q.length<=100/\(aH q).length<=8/\(aH q).all gV=true:=by unfold bA;simp only [c9,decide_eq_true_eq];exact ⟨λh=>⟨h.1.1,h.1.2,h.2.1,h.2.2⟩,λh=>⟨⟨h.1,h.2.1⟩,h.2.2.1,h.2.2.2⟩⟩
theorem Xk {x:List UInt8}(h:gV x=true):x.length<=30:=by unfold gV at h;simp only [c9,decide_eq_true_eq] at h;exact h.2.1
theorem TG {p:List UInt8}(h:bA p=true)(k:Nat):bA (lM ((aH p).take k))=true/\aH (lM ((aH p).take k))=(aH p).take k:=by
 obtain ⟨h1,h2,h3,h4⟩:=cR h;have nm:((aH p).take k).all gV=true:=by rw [List.all_eq_true] at h4⊢;exact λx hx=>h4 x (List.mem_of_mem_take hx)
 obtain ⟨g1,g2,_⟩:=yM nm;refine ⟨(Xj _).2 ⟨g2,?_,?_,?_⟩,g1⟩
 ·unfold lM;split
  ·simp
  ·exact Nat.le_trans (Rg h2 k) h1
 ·rw [g1,List.length_take];omega
 ·rw [g1];exact nm
end Dn.S
