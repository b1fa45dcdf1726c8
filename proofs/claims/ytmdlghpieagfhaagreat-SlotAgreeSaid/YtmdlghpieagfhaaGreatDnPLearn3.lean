import Derived.Test.YtmdlghpieagfhaaGreatDnPLearn2
/-
  Learners: a proof heard; LearnerTurns. Conditions: none.
-/
set_option linter.unusedVariables false
set_option linter.unusedSimpArgs false
open Go Dn
namespace Dn.S
theorem OY (x:aa)(r:List aa):nS (x::r)=some (x.View,x.Value,true):=by unfold nS;rw [if_neg (by simp only [List.length_cons];omega),yw (by simp),yw (by simp)];rfl
theorem Er {l:aq}(hr:lN l)(hl:l.bn.L.length<2^31)(xh:Int)(p:List aa)(hp:p.length<2^32):jH l xh p=some (jb l xh p):=by
 unfold jH jb;obtain ⟨b,eb,hb⟩:=rm l.S p hp;rw [eb,au];cases b with
 |false=>rw [if_pos (by decide),if_neg (λh=>by have:=hb.2 h;cases this)]
 |true=>
  have hy:=hb.1 rfl;rw [if_neg (by decide),if_pos hy];cases p with
  |nil=>have h1:=hy.len;have h2:=hr.sz.f1;have h3:=hr.sz.t0;simp only [List.length_nil] at h1;omega
  |cons x r=>
   rw [OY,au,yy hr.sz,au];unfold jg;rw [OX l hr.sz ⟨xh,x.View,x.Value⟩,au];by_cases h:mP l ⟨xh,x.View,x.Value⟩
   ·rw [decide_eq_true h,if_pos rfl,au];simp only [if_pos h];rfl
   ·have e1:iS l.bn ⟨xh,x.View,x.Value⟩=some (⟨(dV l.bn.L ⟨xh,x.View,x.Value⟩).1⟩,(dV l.bn.L ⟨xh,x.View,x.Value⟩).2):=vL (L:=l.bn.L) (CW hr.zk.2) (by omega);rw [decide_eq_false h,if_neg (by decide),e1,au,Kv hr.zk.2 _ _ hl,au,au];simp only [if_neg h];unfold eu;cases p0 (dV l.bn.L ⟨xh,x.View,x.Value⟩).1 (2 *l.S.F+l.S.T+1)<;>rfl
end Dn.S
