import Derived.Test.YtmdlghpieagfhaaGreatDnPLearn
/-
  Learners: what they come to; LearnerTurns. Conditions: none.
-/
open Go Dn
set_option linter.unusedVariables false
set_option linter.unusedSimpArgs false
namespace Dn.S
theorem Cp {s:af} (h:cX s):qo s=some (3 *s.F+s.T+1):=h.cases (fun s=>qo s=some (3 *s.F+s.T+1)) (by decide+kernel)
def kO (l:ar) (t:List aa) (bM:Int):ar:=match kN t bM with
 |some z=>⟨l.S,l.aZ,l.bA,l.Told,true,z.Value⟩
 |none=>l
def rY (l:ar) (a:aa):Prop:=l.ch=true∨vl l.S≤a.By∨ ¬tm a
instance (l:ar) (a:aa):Decidable (rY l a):=by unfold rY tm;infer_instance
theorem Vu (l:ar) (hs:cX l.S) (a:aa):
 (if l.ch then some true else if a.By<0 then some true else bd (mf l.S) fun rA=>if rA≤a.By then some true else bd (jD a) fun aY=>some (!aY))=some (decide (rY l a)):=by
 rw [tp hs,bl,wK,bl]
 by_cases hd:l.ch=true
 ·rw [if_pos hd,decide_eq_true (show rY l a from .inl hd)]
 ·rw [if_neg hd]
  by_cases h0:a.By<0
  ·rw [if_pos h0,decide_eq_true (show rY l a from .inr (.inr fun h=>by have:=h.1;omega))]
  ·rw [if_neg h0]
   by_cases h1:3 *l.S.F+2 *l.S.T+1≤a.By
   ·rw [if_pos h1,decide_eq_true (show rY l a from .inr (.inl (by unfold vl;exact h1)))]
   ·rw [if_neg h1]
    have CU: ¬vl l.S≤a.By:=by unfold vl;exact h1
    by_cases h2:tm a
    ·rw [decide_eq_true h2,decide_eq_false (show¬rY l a from fun h=>h.elim hd (fun h=>h.elim CU (fun h=>h h2)))];rfl
    ·rw [decide_eq_false h2,decide_eq_true (show rY l a from .inr (.inr h2))];rfl
theorem MH {L:List aa} (h:sE L):qh vk L:=h.2
theorem KN {L:List aa} (h:sE L) (a:aa): ∀e∈(iS L a).1,0≤e.View:=fun e he=>((q0 (a:=a) h).1 e he).2.1
theorem Tl {L:List aa} (h:sE L) (a:aa) (bM:Int) (hl:L.length<2^31):ji ⟨(iS L a).1⟩ bM=some (Tg (kN (iS L a).1 bM)):=
 AN bM (KN h a) (by have:=KG (L:=L) (a:=a);omega)
def ft (l:ar) (a:aa):ar:=if rY l a then l else kO ⟨l.S,⟨(iS l.aZ.L a).1⟩,l.bA,l.Told,l.ch,l.Value⟩ (iS l.aZ.L a).1 (3 *l.S.F+l.S.T+1)
theorem KO {l:ar} (hr:uH l) (hl:l.aZ.L.length<2^31) (a:aa):fQ l a=some (ft l a):=by
 unfold fQ ft ga
 rw [Cp hr.sz,bl,Vu l hr.sz,bl]
 by_cases h:rY l a
 ·rw [decide_eq_true h,if_pos rfl,bl,if_pos h];rfl
 ·have e1:iL l.aZ a=some (⟨(iS l.aZ.L a).1⟩,(iS l.aZ.L a).2):=Cm (L:=l.aZ.L) (MH hr.acc.2) (by omega)
  rw [decide_eq_false h,if_neg (by decide),e1,bl,Tl hr.acc.2 a _ hl,bl,bl,if_neg h]
  unfold kO
  cases kN (iS l.aZ.L a).1 (3 *l.S.F+l.S.T+1)<;>rfl
end Dn.S
