import Derived.Test.YtbkodohojpchjaaGreatDoorDnPShelf2
/-
  Shelves: the document's word; ShelfMay. Conditions: none.
-/
set_option linter.unusedVariables false
set_option linter.unusedSimpArgs false
open Go Dn
namespace Dn.S
theorem GB (L:List ah):(L.map toR).map (·.Path)=L.map (·.Path):=by rw [List.map_map];rfl
theorem toR_path (x:ah):(toR x).Path=x.Path:=rfl
theorem toR_owner (x:ah):(toR x).b5=x.b5:=rfl
theorem aeR (a b:ah):((decide (a.Path=b.Path))&&((decide (a.Value=b.Value))&&((decide (a.Version=b.Version))&&(decide (a.b5=b.b5)))))=decide (a=b):=by cases a;cases b;simp [Bool.eq_iff_iff]
theorem OG (s t:aD)(hl:s.L.length<2^40):tB s t=some (decide (s.L=t.L)):=by
 unfold tB iY;rw [Gz];by_cases he:s.L.length=t.L.length
 ·have:decide ((s.L.length:Int)=(t.L.length:Int))=true:=decide_eq_true (by omega);rw [this,if_neg (by decide),xh he (λk ha hb=>by
   unfold gQ;rw [if_pos (by omega),ba ha,ba hb,aeR,wrap64 (by omega) (by omega)];by_cases hh:s.L[k]=t.L[k]<;>simp [hh]) (by
   unfold gQ;rw [if_neg (by omega)]),av]
  by_cases Tx:s.L=t.L<;>simp [Tx]
 ·have:decide ((s.L.length:Int)=(t.L.length:Int))=false:=decide_eq_false (by omega);rw [this,if_pos (by decide)];have Tx:s.L≠t.L:=λe=>he (by rw [e]);simp [Tx]
end Dn.S
