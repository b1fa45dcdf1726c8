import Derived.Test.YtbkodohojpchjaaGreatDoorDnPShelf2
/-
  Shelves: the document's word; ShelfMay. Conditions: none.
-/
open Go Dn
set_option linter.unusedVariables false
set_option linter.unusedSimpArgs false
namespace Dn.S
theorem We (a b:ae):((decide (a.Path=b.Path))&&((decide (a.Value=b.Value))&&((decide (a.Version=b.Version))&&(decide (a.bj=b.bj)))))=decide (a=b):=by
 cases a;cases b;simp [Bool.eq_iff_iff]
theorem IE (s t:av) (hl:s.L.length<2^40):qB s t=some (decide (s.L=t.L)):=by
 unfold qB gj
 rw [Hc]
 by_cases he:s.L.length=t.L.length
 ·have:decide ((s.L.length:Int)=(t.L.length:Int))=true:=decide_eq_true (by omega)
  rw [this,if_neg (by decide),AW he (fun k ha hb=>by
   unfold fb
   rw [if_pos (by omega),cg ha,cg hb,We,wrap64 (by omega) (by omega)]
   by_cases hh:s.L[k]=t.L[k]<;>simp [hh]) (by
   unfold fb
   rw [if_neg (by omega)]),aM]
  by_cases Wa:s.L=t.L<;>simp [Wa]
 ·have:decide ((s.L.length:Int)=(t.L.length:Int))=false:=decide_eq_false (by omega)
  rw [this,if_pos (by decide)]
  have Wa:s.L≠t.L:=fun e=>he (by rw [e])
  simp [Wa]
end Dn.S
