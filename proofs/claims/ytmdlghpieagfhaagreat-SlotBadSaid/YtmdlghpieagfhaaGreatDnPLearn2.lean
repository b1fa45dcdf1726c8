import Derived.Test.YtmdlghpieagfhaaGreatDnPLearn
/-
  Learners: what they come to; LearnerTurns. Conditions: none.
-/
set_option linter.unusedVariables false
set_option linter.unusedSimpArgs false
open Go Dn
namespace Dn.S
theorem Qs {s:af}(h:cr s):xc s=some (3 *s.F+s.T+1):=h.cases (λs=>xc s=some (3 *s.F+s.T+1)) (by decide+kernel)
theorem Qt {s:af}(h:cr s):xd s=some (s.F+1):=h.cases (λs=>xd s=some (s.F+1)) (by decide+kernel)
def je (l:ar)(t:List aa)(b9:Int):ar:=match lJ t b9 with
 |some z=>⟨l.S,l.bj,l.bp,l.Told,true,z.Value⟩
 |none=>l
def pE (l:ar)(a:aa):Prop:=l.cq=true\/uI l.S<=a.By\/ ¬sF a
instance (l:ar) (a:aa):Decidable (pE l a):=by unfold pE sF;infer_instance
theorem N9 (l:ar)(hs:cr l.S)(a:aa): (if l.cq then some true else if a.By<0 then some true else bd (pT l.S) λrA=>if rA<=a.By then some true else bd (lK a) λbc=>some (!bc))=some (decide (pE l a)):=by
 rw [uH hs,ap,vQ,ap];by_cases hd:l.cq=true
 ·rw [if_pos hd,decide_eq_true (show pE l a from .inl hd)]
 ·rw [if_neg hd];by_cases h0:a.By<0
  ·rw [if_pos h0,decide_eq_true (show pE l a from .inr (.inr λh=>by have:=h.1;omega))]
  ·rw [if_neg h0];by_cases h1:3 *l.S.F+2 *l.S.T+1<=a.By
   ·rw [if_pos h1,decide_eq_true (show pE l a from .inr (.inl (by unfold uI;exact h1)))]
   ·rw [if_neg h1];have FU: ¬uI l.S<=a.By:=by unfold uI;exact h1
    by_cases h2:sF a
    ·rw [decide_eq_true h2,decide_eq_false (show¬pE l a from λh=>h.elim hd (λh=>h.elim FU (λh=>h h2)))];rfl
    ·rw [decide_eq_false h2,decide_eq_true (show pE l a from .inr (.inr h2))];rfl
theorem C8 {L:List aa}(h:qz L):pc vk L:=h.2
theorem Qu {L:List aa}(h:qz L)(a:aa): ∀e∈(ia L a).1,0<=e.View:=λe he=>((uG (a:=a) h).1 e he).2.1
theorem Kb {L:List aa}(h:qz L)(a:aa)(b9:Int)(hl:L.length<2^31):lc ⟨(ia L a).1⟩ b9=some (Y5 (lJ (ia L a).1 b9)):=EE b9 (Qu h a) (by have:=P9 (L:=L) (a:=a);omega)
def ft (l:ar)(a:aa):ar:=if pE l a then l else je ⟨l.S,⟨(ia l.bj.L a).1⟩,l.bp,l.Told,l.cq,l.Value⟩ (ia l.bj.L a).1 (3 *l.S.F+l.S.T+1)
theorem GG {l:ar}(hr:pe l)(hl:l.bj.L.length<2^31)(a:aa):iS l a=some (ft l a):=by
 unfold iS ft jh;rw [Qs hr.sz,ap,N9 l hr.sz,ap];by_cases h:pE l a
 ·rw [decide_eq_true h,if_pos rfl,ap,if_pos h];rfl
 ·have e1:iR l.bj a=some (⟨(ia l.bj.L a).1⟩,(ia l.bj.L a).2):=vR (L:=l.bj.L) (C8 hr.acc.2) (by omega);rw [decide_eq_false h,if_neg (by decide),e1,ap,Kb hr.acc.2 a _ hl,ap,ap,if_neg h];unfold je;cases lJ (ia l.bj.L a).1 (3 *l.S.F+l.S.T+1)<;>rfl
open Classical in
noncomputable def ln (l:ar)(wL:Int)(p:List aa):ar:=if Az l.S p then (match p with
 |[]=>l
 |x::_=>if pE l ⟨wL,x.View,x.Value⟩ then l else je ⟨l.S,l.bj,⟨(ia l.bp.L ⟨wL,x.View,x.Value⟩).1⟩,l.Told,l.cq,l.Value⟩ (ia l.bp.L ⟨wL,x.View,x.Value⟩).1 (2 *l.S.F+l.S.T+1)) else l
def EK (l:ar)(wL:Int)(value:List UInt8):ar:=if pE l ⟨wL,0,value⟩ then l else je ⟨l.S,l.bj,l.bp,⟨(ia l.Told.L ⟨wL,0,value⟩).1⟩,l.cq,l.Value⟩ (ia l.Told.L ⟨wL,0,value⟩).1 (l.S.F+1)
theorem abN {l:ar}(hr:pe l)(hl:l.Told.L.length<2^31)(wL:Int)(value:List UInt8):qa l wL value=some (EK l wL value):=by
 unfold qa EK jk;rw [Qt hr.sz,ap,N9 l hr.sz,ap];by_cases h:pE l ⟨wL,0,value⟩
 ·rw [decide_eq_true h,if_pos rfl,ap,if_pos h];rfl
 ·have e1:iR l.Told ⟨wL,0,value⟩=some (⟨(ia l.Told.L ⟨wL,0,value⟩).1⟩,(ia l.Told.L ⟨wL,0,value⟩).2):=vR (L:=l.Told.L) (C8 hr.told.2) (by omega);rw [decide_eq_false h,if_neg (by decide),e1,ap,Kb hr.told.2 _ _ hl,ap,ap,if_neg h];unfold je;cases lJ (ia l.Told.L ⟨wL,0,value⟩).1 (l.S.F+1)<;>rfl
end Dn.S
