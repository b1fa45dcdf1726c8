import Derived.Test.YtmdlghpieagfhaaGreatDnPLearn
/- Learners: what they come to; LearnerTurns. Conditions: none. -/
set_option linter.unusedVariables false
set_option linter.unusedSimpArgs false
open Go Dn
namespace Dn.S
theorem RY {s:ae}(h:cC s):xg s=some (3 *s.F+s.T+1):=h.cases (λs=>xg s=some (3 *s.F+s.T+1)) (by decide+kernel)
theorem RZ {s:ae}(h:cC s):xh s=some (s.F+1):=h.cases (λs=>xh s=some (s.F+1)) (by decide+kernel)
def dS (l:ar)(t:List aa)(b6:Int):ar:=match ol t b6 with
 |some z=>⟨l.S,l.aY,l.aR,l.Told,true,z.Value⟩
 |none=>l
def lF (l:ar)(a:aa):Prop:=l.bw=true\/kz l.S<=a.By\/ ¬tw a
instance (l:ar) (a:aa):Decidable (lF l a):=by unfold lF tw;infer_instance
theorem Ps (l:ar)(hs:cC l.S)(a:aa): (if l.bw then some true else if a.By<0 then some true else bd (pH l.S) λrA=>if rA<=a.By then some true else bd (kJ a) λbu=>some (!bu))=some (decide (lF l a)):=by
 rw [om hs,au,vW,au];by_cases hd:l.bw=true
 ·rw [if_pos hd,decide_eq_true (show lF l a from .inl hd)]
 ·rw [if_neg hd];by_cases h0:a.By<0
  ·rw [if_pos h0,decide_eq_true (show lF l a from .inr (.inr λh=>by have:=h.1;omega))]
  ·rw [if_neg h0];by_cases h1:3 *l.S.F+2 *l.S.T+1<=a.By
   ·rw [if_pos h1,decide_eq_true (show lF l a from .inr (.inl (by unfold kz;exact h1)))]
   ·rw [if_neg h1];have Gf: ¬kz l.S<=a.By:=by unfold kz;exact h1
    by_cases h2:tw a
    ·rw [decide_eq_true h2,decide_eq_false (show¬lF l a from λh=>h.elim hd (λh=>h.elim Gf (λh=>h h2)))];rfl
    ·rw [decide_eq_false h2,decide_eq_true (show lF l a from .inr (.inr h2))];rfl
theorem Dm {L:List aa}(h:qm L):oh vk L:=h.2
theorem R0 {L:List aa}(h:qm L)(a:aa): ∀e∈(cL L a).1,0<=e.View:=λe he=>((oW (a:=a) h).1 e he).2.1
theorem KR {L:List aa}(h:qm L)(a:aa)(b6:Int)(hl:L.length<2^31):lj ⟨(cL L a).1⟩ b6=some (ae4 (ol (cL L a).1 b6)):=EJ b6 (R0 h a) (by have:=RN (L:=L) (a:=a);omega)
def b8 (l:ar)(a:aa):ar:=if lF l a then l else dS ⟨l.S,⟨(cL l.aY.L a).1⟩,l.aR,l.Told,l.bw,l.Value⟩ (cL l.aY.L a).1 (3 *l.S.F+l.S.T+1)
theorem wb {l:ar}(hr:lZ l)(hl:l.aY.L.length<2^31)(a:aa):jc l a=some (b8 l a):=by
 unfold jc b8 ju;rw [RY hr.sz,au,Ps l hr.sz,au];by_cases h:lF l a
 ·rw [decide_eq_true h,if_pos rfl,au,if_pos h];rfl
 ·have e1:jb l.aY a=some (⟨(cL l.aY.L a).1⟩,(cL l.aY.L a).2):=vX (L:=l.aY.L) (Dm hr.acc.2) (by omega);rw [decide_eq_false h,if_neg (by decide),e1,au,KR hr.acc.2 a _ hl,au,au,if_neg h];unfold dS;cases ol (cL l.aY.L a).1 (3 *l.S.F+l.S.T+1)<;>rfl
open Classical in
noncomputable def fa (l:ar)(xD:Int)(p:List aa):ar:=if uN l.S p then (match p with
 |[]=>l
 |x::_=>if lF l ⟨xD,x.View,x.Value⟩ then l else dS ⟨l.S,l.aY,⟨(cL l.aR.L ⟨xD,x.View,x.Value⟩).1⟩,l.Told,l.bw,l.Value⟩ (cL l.aR.L ⟨xD,x.View,x.Value⟩).1 (2 *l.S.F+l.S.T+1)) else l
def uR (l:ar)(xD:Int)(value:List UInt8):ar:=if lF l ⟨xD,0,value⟩ then l else dS ⟨l.S,l.aY,l.aR,⟨(cL l.Told.L ⟨xD,0,value⟩).1⟩,l.bw,l.Value⟩ (cL l.Told.L ⟨xD,0,value⟩).1 (l.S.F+1)
theorem Pt {l:ar}(hr:lZ l)(hl:l.Told.L.length<2^31)(xD:Int)(value:List UInt8):pP l xD value=some (uR l xD value):=by
 unfold pP uR jx;rw [RZ hr.sz,au,Ps l hr.sz,au];by_cases h:lF l ⟨xD,0,value⟩
 ·rw [decide_eq_true h,if_pos rfl,au,if_pos h];rfl
 ·have e1:jb l.Told ⟨xD,0,value⟩=some (⟨(cL l.Told.L ⟨xD,0,value⟩).1⟩,(cL l.Told.L ⟨xD,0,value⟩).2):=vX (L:=l.Told.L) (Dm hr.told.2) (by omega);rw [decide_eq_false h,if_neg (by decide),e1,au,KR hr.told.2 _ _ hl,au,au,if_neg h];unfold dS;cases ol (cL l.Told.L ⟨xD,0,value⟩).1 (l.S.F+1)<;>rfl
end Dn.S
