import Derived.Test.YtmdlghpieagfhaaGreatDnPLearn2
/-
  Learners: a proof heard; LearnerTurns. Conditions: none.
-/
set_option linter.unusedVariables false
set_option linter.unusedSimpArgs false
open Go Dn
namespace Dn.S
theorem Oa (x:aa)(r:List aa):oh (x::r)=some (x.View,x.Value,true):=by unfold oh;rw [if_neg (by simp only [List.length_cons];omega),jT (by simp),jT (by simp)];rfl
theorem Ob {l:ar}(hr:pe l)(hl:l.bp.L.length<2^31)(wL:Int)(p:List aa)(hp:p.length<2^32):jK l wL p=some (ln l wL p):=by
 unfold jK ln;obtain ⟨b,eb,hb⟩:=rN l.S p hp;rw [eb,ap];cases b with
 |false=>rw [if_pos (by decide),if_neg (λh=>by have:=hb.2 h;cases this)]
 |true=>
  have hy:=hb.1 rfl;rw [if_neg (by decide),if_pos hy];cases p with
  |nil=>have h1:=hy.len;have h2:=hr.sz.f1;have h3:=hr.sz.t0;simp only [List.length_nil] at h1;omega
  |cons x r=>
   rw [Oa,ap,yH hr.sz,ap];unfold ji;rw [N9 l hr.sz ⟨wL,x.View,x.Value⟩,ap];by_cases h:pE l ⟨wL,x.View,x.Value⟩
   ·rw [decide_eq_true h,if_pos rfl,ap];simp only [if_pos h];rfl
   ·have e1:iR l.bp ⟨wL,x.View,x.Value⟩=some (⟨(ia l.bp.L ⟨wL,x.View,x.Value⟩).1⟩,(ia l.bp.L ⟨wL,x.View,x.Value⟩).2):=vR (L:=l.bp.L) (C8 hr.V5.2) (by omega);rw [decide_eq_false h,if_neg (by decide),e1,ap,Kb hr.V5.2 _ _ hl,ap,ap];simp only [if_neg h];unfold je;cases lJ (ia l.bp.L ⟨wL,x.View,x.Value⟩).1 (2 *l.S.F+l.S.T+1)<;>rfl
end Dn.S
