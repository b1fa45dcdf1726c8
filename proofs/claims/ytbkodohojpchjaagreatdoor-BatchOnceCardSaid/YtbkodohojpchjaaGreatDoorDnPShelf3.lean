import Derived.Test.YtbkodohojpchjaaGreatDoorDnPShelf2
/- Shelves: the document's word; ShelfMay. Conditions: none. -/
set_option linter.unusedVariables false
set_option linter.unusedSimpArgs false
open Go Dn
namespace Dn.S
theorem aeq (a b:af):((decide (a.Path=b.Path))&&((decide (a.Value=b.Value))&&((decide (a.Version=b.Version))&&(decide (a.dw=b.dw)))))=decide (a=b):=by cases a;cases b;simp [Bool.eq_iff_iff]
theorem Ow (s t:aC)(hl:s.L.length<2^40):tj s t=some (decide (s.L=t.L)):=by
 unfold tj iC;rw [Qy];by_cases he:s.L.length=t.L.length
 ·have:decide ((s.L.length:Int)=(t.L.length:Int))=true:=decide_eq_true (by omega);rw [this,if_neg (by decide),ER he (λk ha hb=>by
   unfold fW;rw [if_pos (by omega),b7 ha,b7 hb,aeq,wrap64 (by omega) (by omega)];by_cases hh:s.L[k]=t.L[k]<;>simp [hh]) (by
   unfold fW;rw [if_neg (by omega)]),az]
  by_cases hab:s.L=t.L<;>simp [hab]
 ·have:decide ((s.L.length:Int)=(t.L.length:Int))=false:=decide_eq_false (by omega);rw [this,if_pos (by decide)];have hab:s.L≠t.L:=λe=>he (by rw [e]);simp [hab]
end Dn.S
