import Derived.Test.YtmdlghpieagfhaaGreatDnPLearn
/-
  Learners: what they come to; LearnerTurns. Conditions: none.
-/
set_option linter.unusedVariables false
set_option linter.unusedSimpArgs false
open Go Dn
namespace Dn.S
theorem Rv {s:ae}(h:cC s):wQ s=some (3 *s.F+s.T+1):=h.cases (λs=>wQ s=some (3 *s.F+s.T+1)) (by decide+kernel)
theorem Rw {s:ae}(h:cC s):wR s=some (s.F+1):=h.cases (λs=>wR s=some (s.F+1)) (by decide+kernel)
def eu (l:aq)(t:List aa)(cg:Int):aq:=match p0 t cg with
 |some z=>⟨l.S,l.aY,l.bn,l.Told,true,z.Value⟩
 |none=>l
def mP (l:aq)(a:aa):Prop:=l.bQ=true\/mS l.S<=a.By\/ ¬xe a
instance (l:aq) (a:aa):Decidable (mP l a):=by unfold mP xe;infer_instance
theorem OX (l:aq)(hs:cC l.S)(a:aa): (if l.bQ then some true else if a.By<0 then some true else bd (pq l.S) λrA=>if rA<=a.By then some true else bd (kq a) λbt=>some (!bt))=some (decide (mP l a)):=by
 rw [qa hs,au,vK,au];by_cases hd:l.bQ=true
 ·rw [if_pos hd,decide_eq_true (show mP l a from .inl hd)]
 ·rw [if_neg hd];by_cases h0:a.By<0
  ·rw [if_pos h0,decide_eq_true (show mP l a from .inr (.inr λh=>by have:=h.1;omega))]
  ·rw [if_neg h0];by_cases h1:3 *l.S.F+2 *l.S.T+1<=a.By
   ·rw [if_pos h1,decide_eq_true (show mP l a from .inr (.inl (by unfold mS;exact h1)))]
   ·rw [if_neg h1];have FK: ¬mS l.S<=a.By:=by unfold mS;exact h1
    by_cases h2:xe a
    ·rw [decide_eq_true h2,decide_eq_false (show¬mP l a from λh=>h.elim hd (λh=>h.elim FK (λh=>h h2)))];rfl
    ·rw [decide_eq_false h2,decide_eq_true (show mP l a from .inr (.inr h2))];rfl
theorem CW {L:List aa}(h:pZ L):o8 vk L:=h.2
theorem Rx {L:List aa}(h:pZ L)(a:aa): ∀e∈(dV L a).1,0<=e.View:=λe he=>((uB (a:=a) h).1 e he).2.1
theorem Kv {L:List aa}(h:pZ L)(a:aa)(cg:Int)(hl:L.length<2^31):kR ⟨(dV L a).1⟩ cg=some (aer (p0 (dV L a).1 cg)):=Ek cg (Rx h a) (by have:=Rh (L:=L) (a:=a);omega)
def da (l:aq)(a:aa):aq:=if mP l a then l else eu ⟨l.S,⟨(dV l.aY.L a).1⟩,l.bn,l.Told,l.bQ,l.Value⟩ (dV l.aY.L a).1 (3 *l.S.F+l.S.T+1)
theorem AL {l:aq}(hr:lN l)(hl:l.aY.L.length<2^31)(a:aa):iT l a=some (da l a):=by
 unfold iT da jf;rw [Rv hr.sz,au,OX l hr.sz,au];by_cases h:mP l a
 ·rw [decide_eq_true h,if_pos rfl,au,if_pos h];rfl
 ·have e1:iS l.aY a=some (⟨(dV l.aY.L a).1⟩,(dV l.aY.L a).2):=vL (L:=l.aY.L) (CW hr.acc.2) (by omega);rw [decide_eq_false h,if_neg (by decide),e1,au,Kv hr.acc.2 a _ hl,au,au,if_neg h];unfold eu;cases p0 (dV l.aY.L a).1 (3 *l.S.F+l.S.T+1)<;>rfl
open Classical in
noncomputable def jb (l:aq)(xh:Int)(p:List aa):aq:=if CP l.S p then (match p with
 |[]=>l
 |x::_=>if mP l ⟨xh,x.View,x.Value⟩ then l else eu ⟨l.S,l.aY,⟨(dV l.bn.L ⟨xh,x.View,x.Value⟩).1⟩,l.Told,l.bQ,l.Value⟩ (dV l.bn.L ⟨xh,x.View,x.Value⟩).1 (2 *l.S.F+l.S.T+1)) else l
def AM (l:aq)(xh:Int)(value:List UInt8):aq:=if mP l ⟨xh,0,value⟩ then l else eu ⟨l.S,l.aY,l.bn,⟨(dV l.Told.L ⟨xh,0,value⟩).1⟩,l.bQ,l.Value⟩ (dV l.Told.L ⟨xh,0,value⟩).1 (l.S.F+1)
theorem Vr {l:aq}(hr:lN l)(hl:l.Told.L.length<2^31)(xh:Int)(value:List UInt8):pD l xh value=some (AM l xh value):=by
 unfold pD AM jh;rw [Rw hr.sz,au,OX l hr.sz,au];by_cases h:mP l ⟨xh,0,value⟩
 ·rw [decide_eq_true h,if_pos rfl,au,if_pos h];rfl
 ·have e1:iS l.Told ⟨xh,0,value⟩=some (⟨(dV l.Told.L ⟨xh,0,value⟩).1⟩,(dV l.Told.L ⟨xh,0,value⟩).2):=vL (L:=l.Told.L) (CW hr.told.2) (by omega);rw [decide_eq_false h,if_neg (by decide),e1,au,Kv hr.told.2 _ _ hl,au,au,if_neg h];unfold eu;cases p0 (dV l.Told.L ⟨xh,0,value⟩).1 (l.S.F+1)<;>rfl
end Dn.S
