import Derived.Test.YtbkodohojpchjaaGreatDoorDnPShelf5
/-
  Shelves: kids, and what an owner had; ShelfKids, ShelfDrops. Conditions: none.
-/
set_option linter.unusedVariables false
set_option linter.unusedSimpArgs false
open Go Dn
namespace Dn.S
theorem EN {L:List af}(hs:nm L){i j:Nat}(hi:i<L.length)(hj:j<L.length)(h:(L[i]).Path=(L[j]).Path):i=j:=by
 rcases Nat.lt_trichotomy i j with h1|h1|h1
 ·have:=C8 hs hi hj h1;rw [h,BO] at this;cases this
 ·exact h1
 ·have:=C8 hs hj hi h1;rw [h,BO] at this;cases this
theorem Kg {L:List af}(hs:nm L){i:Nat}(hi:i<L.length):cu L (L[i]).Path=((i:Int),0):=by unfold cu;have Df:mD (L.map (·.Path)) (L[i]).Path=(i:Int):=Kc (by simpa using hi) (by simp) (λj hj=>by simp only [List.getElem_map];intro h;have:=EN hs (by omega) hi h;omega);rw [dY hs hi,Df];simp
theorem XI {L:List af}(hs:nm L){i:Nat}(hi:i<L.length):eo L (L[i]).Path=(L[i],0):=by unfold eo;rw [Kg hs hi];simp [List.getElem?_eq_getElem hi]
theorem abU {n:af}{p:List UInt8}(hn:bn n.Path=true)(hp:bn p=true)(h:zI p n=true):gX (GD n)=true/\EL p (GD n)=n.Path:=by
 obtain ⟨h1,h2⟩:=(xv hn hp).1 h;obtain ⟨n1,n2,n3,n4⟩:=cQ hn;have hx:gX (GD n)=true:=by unfold GD;rw [A4 h2];exact List.all_eq_true.1 n4 _ (List.getElem_mem _)
 refine ⟨hx,?_⟩;obtain ⟨j1,j2,j3,j4⟩:=T4 hp hx;refine FK j2 n2 ?_;rw [j1];unfold jL at h1;simp only [Bool.and_eq_true,decide_eq_true_eq] at h1;unfold GD;rw [A4 h2];have:aE n.Path=(aE n.Path).take (aE p).length++[(aE n.Path)[(aE p).length]'(by omega)]:=by
  conv=>lhs;rw [<-List.take_append_drop (aE p).length (aE n.Path)]
  congr 1;rw [List.drop_eq_getElem_cons (by omega),List.drop_of_length_le (by omega)]
 conv=>rhs;rw [this]
 rw [<-h1.2]
end Dn.S
