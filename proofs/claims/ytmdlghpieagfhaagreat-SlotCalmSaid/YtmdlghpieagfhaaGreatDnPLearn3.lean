import Derived.Test.YtmdlghpieagfhaaGreatDnPLearn2
/- Learners: a proof heard; LearnerTurns. Conditions: none. -/
set_option linter.unusedVariables false
set_option linter.unusedSimpArgs false
open Go Dn
namespace Dn.S
theorem Pu (x:aa)(r:List aa):n4 (x::r)=some (x.View,x.Value,true):=by unfold n4;rw [if_neg (by simp only [List.length_cons];omega),yM (by simp),yM (by simp)];rfl
theorem yS {l:ar}(hr:lZ l)(hl:l.aR.L.length<2^31)(xD:Int)(p:List aa)(hp:p.length<2^32):jO l xD p=some (fa l xD p):=by
 unfold jO fa;obtain ⟨b,eb,hb⟩:=oo l.S p hp;rw [eb,au];cases b with
 |false=>rw [if_pos (by decide),if_neg (λh=>by have:=hb.2 h;cases this)]
 |true=>
  have hy:=hb.1 rfl;rw [if_neg (by decide),if_pos hy];cases p with
  |nil=>have h1:=hy.len;have h2:=hr.sz.f1;have h3:=hr.sz.t0;simp only [List.length_nil] at h1;omega
  |cons x r=>
   rw [Pu,au,yP hr.sz,au];unfold jv;rw [Ps l hr.sz ⟨xD,x.View,x.Value⟩,au];by_cases h:lF l ⟨xD,x.View,x.Value⟩
   ·rw [decide_eq_true h,if_pos rfl,au];simp only [if_pos h];rfl
   ·have e1:jb l.aR ⟨xD,x.View,x.Value⟩=some (⟨(cL l.aR.L ⟨xD,x.View,x.Value⟩).1⟩,(cL l.aR.L ⟨xD,x.View,x.Value⟩).2):=vX (L:=l.aR.L) (Dm hr.sL.2) (by omega);rw [decide_eq_false h,if_neg (by decide),e1,au,KR hr.sL.2 _ _ hl,au,au];simp only [if_neg h];unfold dS;cases ol (cL l.aR.L ⟨xD,x.View,x.Value⟩).1 (2 *l.S.F+l.S.T+1)<;>rfl
end Dn.S
