import Derived.Test.YtbkodohojpchjaaGreatDoorDnPPath4
/-
  Paths: PathJoins, PathMade. Conditions: none.
-/
set_option linter.unusedVariables false
set_option linter.unusedSimpArgs false
open Bool renaming and_eq_true→c8
open Go Dn
namespace Dn.S
theorem XC (q:List UInt8):bn q=true↔lP q=true/\q.length<=100/\(aE q).length<=8/\(aE q).all gX=true:=by unfold bn;simp only [c8,decide_eq_true_eq];exact ⟨λh=>⟨h.1.1,h.1.2,h.2.1,h.2.2⟩,λh=>⟨⟨h.1,h.2.1⟩,h.2.2.1,h.2.2.2⟩⟩
theorem XD {x:List UInt8}(h:gX x=true):x.length<=30:=by unfold gX at h;simp only [c8,decide_eq_true_eq] at h;exact h.2.1
theorem T5 {p:List UInt8}(h:bn p=true)(k:Nat):bn (lK ((aE p).take k))=true/\aE (lK ((aE p).take k))=(aE p).take k:=by
 obtain ⟨h1,h2,h3,h4⟩:=cQ h;have lW:((aE p).take k).all gX=true:=by rw [List.all_eq_true] at h4⊢;exact λx hx=>h4 x (List.mem_of_mem_take hx)
 obtain ⟨g1,g2,_⟩:=yY lW;refine ⟨(XC _).2 ⟨g2,?_,?_,?_⟩,g1⟩
 ·unfold lK;split
  ·simp
  ·exact Nat.le_trans (Rl h2 k) h1
 ·rw [g1,List.length_take];omega
 ·rw [g1];exact lW
end Dn.S
