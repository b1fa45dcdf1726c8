import Derived.Test.YtmdlghpieagfhaaGreatDnYT
import Derived.Test.YtmdlghpieagfhaaGreatDnC
/-
  Sizes: the functions on typed values. Conditions: none.
-/
set_option linter.unusedVariables false
set_option linter.unusedSimpArgs false
open Go Dn
namespace Dn.S
structure cR (s:ak):Prop where
 f1:1<=s.F
 f5:s.F<=5
 t0:0<=s.T
 tf:s.T<=s.F
theorem eZ (s:ak):cR s↔(1<=s.F/\s.F<=5/\0<=s.T/\s.T<=s.F):=⟨λ⟨a,b,c,d⟩=>⟨a,b,c,d⟩,λ⟨a,b,c,d⟩=>⟨a,b,c,d⟩⟩
instance (s:ak):Decidable (cR s):=decidable_of_iff _ (eZ s).symm
theorem ayP {a b c d P:Prop}[Decidable a][Decidable b][Decidable c][Decidable d][Decidable P](h:P↔a/\b/\c/\d):(if a then if b then if c then some (decide d) else some false else some false else some false)=some (decide P):=by by_cases ha:a<;>by_cases hb:b<;>by_cases hc:c<;>by_cases hd:d<;>simp [ha,hb,hc,hd,h]
theorem cR.cases {s:ak}(h:cR s)(P:ak->Prop)(hp: ∀f:Fin 5,∀t:Fin 6,(t:Nat)<=(f:Nat)+1->P ⟨((f:Nat):Int)+1,((t:Nat):Int)⟩):P s:=by obtain ⟨F,T⟩:=s;obtain ⟨h1,h2,h3,h4⟩:=h;simp only at h1 h2 h3 h4;have:=hp ⟨(F-1).toNat,by omega⟩ ⟨T.toNat,by omega⟩ (by simp only;omega);simp only at this;rw [show (((F-1).toNat:Nat):Int)+1=F by omega,show ((T.toNat:Nat):Int)=T by omega] at this;exact this
theorem vE {s:ak}(h:cR s):qk s=some (3 *s.F+2 *s.T+1):=h.cases (λs=>qk s=some (3 *s.F+2 *s.T+1)) (by decide+kernel)
theorem zU {s:ak}(h:cR s):mR s=some (2 *s.F+s.T+1):=h.cases (λs=>mR s=some (2 *s.F+s.T+1)) (by decide+kernel)
def vF (s:ak):aV:=⟨s.F,s.T⟩
theorem pL (s:ak):lL (vF s)=some (decide (cR s)):=by unfold lL vF;simp only [PT];exact ayP (eZ s)
theorem nI (s:ak):jU s=some (decide (cR s)):=by have h:=pL s;unfold lL vF at h;unfold jU;exact h
def tF (s:ak):Int:=3 *s.F+2 *s.T+1
theorem uc {s:ak}(h:cR s):sL (vF s)=some (3 *s.F+2 *s.T+1):=by obtain ⟨h1,h2,h3,h4⟩:=h;unfold sL vF;simp only;rw [wrap64 (x:=3 *s.F) (by omega) (by omega),wrap64 (x:=2 *s.T) (by omega) (by omega),wrap64 (x:=3 *s.F+2 *s.T) (by omega) (by omega),wrap64 (by omega) (by omega)]
theorem BK {s:ak}(h:cR s):pw (vF s)=some (2 *s.F+s.T+1):=by obtain ⟨h1,h2,h3,h4⟩:=h;unfold pw vF;simp only;rw [wrap64 (x:=2 *s.F) (by omega) (by omega),wrap64 (x:=2 *s.F+s.T) (by omega) (by omega),wrap64 (by omega) (by omega)]
end Dn.S
