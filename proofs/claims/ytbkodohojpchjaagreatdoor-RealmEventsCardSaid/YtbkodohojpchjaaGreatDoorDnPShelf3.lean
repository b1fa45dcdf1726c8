import Derived.Test.YtbkodohojpchjaaGreatDoorDnPShelf2
/-
  Shelves: the document's word; ShelfMay. Conditions: none.
-/
open Go Dn
set_option linter.unusedVariables false
set_option linter.unusedSimpArgs false
namespace Dn.S
theorem Vb (a b:ae):((decide (a.Path=b.Path))&&((decide (a.Value=b.Value))&&((decide (a.Version=b.Version))&&(decide (a.cS=b.cS)))))=decide (a=b):=by
 cases a;cases b;simp [Bool.eq_iff_iff]
theorem HF (s t:aB) (hl:s.L.length<2^40):pV s t=some (decide (s.L=t.L)):=by
 unfold pV fK
 rw [Ju]
 by_cases he:s.L.length=t.L.length
 ·have:decide ((s.L.length:Int)=(t.L.length:Int))=true:=decide_eq_true (by omega)
  rw [this,if_neg (by decide),Ai he (fun k ha hb=>by
   unfold eS
   rw [if_pos (by omega),cg ha,cg hb,Vb,wrap64 (by omega) (by omega)]
   by_cases hh:s.L[k]=t.L[k]<;>simp [hh]) (by
   unfold eS
   rw [if_neg (by omega)]),aR]
  by_cases U7:s.L=t.L<;>simp [U7]
 ·have:decide ((s.L.length:Int)=(t.L.length:Int))=false:=decide_eq_false (by omega)
  rw [this,if_pos (by decide)]
  have U7:s.L≠t.L:=fun e=>he (by rw [e])
  simp [U7]
end Dn.S
