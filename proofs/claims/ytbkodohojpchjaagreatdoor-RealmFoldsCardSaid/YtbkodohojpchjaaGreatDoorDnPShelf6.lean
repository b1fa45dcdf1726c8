import Derived.Test.YtbkodohojpchjaaGreatDoorDnPShelf5
/-
  Shelves: kids, and what an owner had; ShelfKids, ShelfDrops. Conditions: none.
-/
set_option linter.unusedVariables false
set_option linter.unusedSimpArgs false
open Go Dn
namespace Dn.S
theorem EE {L:List ah}(hs:od L){i j:Nat}(hi:i<L.length)(hj:j<L.length)(h:(L[i]).Path=(L[j]).Path):i=j:=by
 rcases Nat.lt_trichotomy i j with h1|h1|h1
 ·have:=Kk hs hi hj h1;rw [h,Bw] at this;cases this
 ·exact h1
 ·have:=Kk hs hj hi h1;rw [h,Bw] at this;cases this
theorem TL {L:List ah}(hs:od L){i:Nat}(hi:i<L.length):cr L (L[i]).Path=((i:Int),0):=by unfold cr;have EY:rN (L.map (·.Path)) (L[i]).Path=(i:Int):=Kh (by simpa using hi) (by simp) (λj hj=>by simp only [List.getElem_map];intro h;have:=EE hs (by omega) hi h;omega);rw [gX hs hi,EY];simp
theorem Xo {L:List ah}(hs:od L){i:Nat}(hi:i<L.length):en L (L[i]).Path=(L[i],0):=by unfold en;rw [TL hs hi];simp [List.getElem?_eq_getElem hi]
theorem abA {n:ah}{p:List UInt8}(hn:bA n.Path=true)(hp:bA p=true)(h:zu p n=true):gV (GC n)=true/\EC p (GC n)=n.Path:=by
 obtain ⟨h1,h2⟩:=(xk hn hp).1 h;obtain ⟨n1,n2,n3,n4⟩:=cR hn;have hx:gV (GC n)=true:=by unfold GC;rw [AK h2];exact List.all_eq_true.1 n4 _ (List.getElem_mem _)
 refine ⟨hx,?_⟩;obtain ⟨j1,j2,j3,j4⟩:=TF hp hx;refine FG j2 n2 ?_;rw [j1];unfold jM at h1;simp only [Bool.and_eq_true,decide_eq_true_eq] at h1;unfold GC;rw [AK h2];have:aH n.Path=(aH n.Path).take (aH p).length++[(aH n.Path)[(aH p).length]'(by omega)]:=by
  conv=>lhs;rw [<-List.take_append_drop (aH p).length (aH n.Path)]
  congr 1;rw [List.drop_eq_getElem_cons (by omega),List.drop_of_length_le (by omega)]
 conv=>rhs;rw [this]
 rw [<-h1.2]
end Dn.S
