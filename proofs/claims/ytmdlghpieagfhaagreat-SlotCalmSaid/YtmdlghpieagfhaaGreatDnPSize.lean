import Derived.Test.YtmdlghpieagfhaaGreatDnYT
import Derived.Test.YtmdlghpieagfhaaGreatDnD
/- Sizes: the functions on typed values. Conditions: none. -/
set_option linter.unusedVariables false
set_option linter.unusedSimpArgs false
open Go Dn
namespace Dn.S
structure cC (s:ae):Prop where
 f1:1<=s.F
 f5:s.F<=5
 t0:0<=s.T
 tf:s.T<=s.F
theorem b7 (s:ae):cC s↔(1<=s.F/\s.F<=5/\0<=s.T/\s.T<=s.F):=⟨λ⟨a,b,c,d⟩=>⟨a,b,c,d⟩,λ⟨a,b,c,d⟩=>⟨a,b,c,d⟩⟩
instance (s:ae):Decidable (cC s):=decidable_of_iff _ (b7 s).symm
theorem asm {a b c d P:Prop}[Decidable a][Decidable b][Decidable c][Decidable d][Decidable P](h:P↔a/\b/\c/\d):(if a then if b then if c then some (decide d) else some false else some false else some false)=some (decide P):=by by_cases ha:a<;>by_cases hb:b<;>by_cases hc:c<;>by_cases hd:d<;>simp [ha,hb,hc,hd,h]
theorem cC.cases {s:ae}(h:cC s)(P:ae->Prop)(hp: ∀f:Fin 5,∀t:Fin 6,(t:Nat)<=(f:Nat)+1->P ⟨((f:Nat):Int)+1,((t:Nat):Int)⟩):P s:=by obtain ⟨F,T⟩:=s;obtain ⟨h1,h2,h3,h4⟩:=h;simp only at h1 h2 h3 h4;have:=hp ⟨(F-1).toNat,by omega⟩ ⟨T.toNat,by omega⟩ (by simp only;omega);simp only at this;rw [show (((F-1).toNat:Nat):Int)+1=F by omega,show ((T.toNat:Nat):Int)=T by omega] at this;exact this
theorem om {s:ae}(h:cC s):pH s=some (3 *s.F+2 *s.T+1):=h.cases (λs=>pH s=some (3 *s.F+2 *s.T+1)) (by decide+kernel)
theorem yP {s:ae}(h:cC s):mN s=some (2 *s.F+s.T+1):=h.cases (λs=>mN s=some (2 *s.F+s.T+1)) (by decide+kernel)
def plS (s:ae):eR:=⟨s.F,s.T⟩
theorem iK (s:ae):j9 s=some (decide (cC s)):=by unfold j9;simp only [ab3];exact asm (b7 s)
def kz (s:ae):Int:=3 *s.F+2 *s.T+1
end Dn.S
