import Derived.Test.YtmdlghpieagfhaaGreatDnYT
import Derived.Test.YtmdlghpieagfhaaGreatDnC
/-
  Sizes: the functions on typed values. Conditions: none.
-/
set_option linter.unusedVariables false
set_option linter.unusedSimpArgs false
open Go Dn
namespace Dn.S
structure cr (s:af):Prop where
 f1:1<=s.F
 f5:s.F<=5
 t0:0<=s.T
 tf:s.T<=s.F
theorem ei (s:af):cr s↔(1<=s.F/\s.F<=5/\0<=s.T/\s.T<=s.F):=⟨λ⟨a,b,c,d⟩=>⟨a,b,c,d⟩,λ⟨a,b,c,d⟩=>⟨a,b,c,d⟩⟩
instance (s:af):Decidable (cr s):=decidable_of_iff _ (ei s).symm
theorem aog {a b c d P:Prop}[Decidable a][Decidable b][Decidable c][Decidable d][Decidable P](h:P↔a/\b/\c/\d):(if a then if b then if c then some (decide d) else some false else some false else some false)=some (decide P):=by by_cases ha:a<;>by_cases hb:b<;>by_cases hc:c<;>by_cases hd:d<;>simp [ha,hb,hc,hd,h]
theorem cr.cases {s:af}(h:cr s)(P:af->Prop)(hp: ∀f:Fin 5,∀t:Fin 6,(t:Nat)<=(f:Nat)+1->P ⟨((f:Nat):Int)+1,((t:Nat):Int)⟩):P s:=by obtain ⟨F,T⟩:=s;obtain ⟨h1,h2,h3,h4⟩:=h;simp only at h1 h2 h3 h4;have:=hp ⟨(F-1).toNat,by omega⟩ ⟨T.toNat,by omega⟩ (by simp only;omega);simp only at this;rw [show (((F-1).toNat:Nat):Int)+1=F by omega,show ((T.toNat:Nat):Int)=T by omega] at this;exact this
theorem uH {s:af}(h:cr s):pT s=some (3 *s.F+2 *s.T+1):=h.cases (λs=>pT s=some (3 *s.F+2 *s.T+1)) (by decide+kernel)
theorem yH {s:af}(h:cr s):mT s=some (2 *s.F+s.T+1):=h.cases (λs=>mT s=some (2 *s.F+s.T+1)) (by decide+kernel)
def xI (s:af):cu:=⟨s.F,s.T⟩
theorem pC (s:af):pn (xI s)=some (decide (cr s)):=by unfold pn xI;simp only [JI];exact aog (ei s)
theorem nN (s:af):j0 s=some (decide (cr s)):=by have h:=pC s;unfold pn xI at h;unfold j0;exact h
def uI (s:af):Int:=3 *s.F+2 *s.T+1
theorem Bn {s:af}(h:cr s):yP (xI s)=some (3 *s.F+2 *s.T+1):=by obtain ⟨h1,h2,h3,h4⟩:=h;unfold yP xI;simp only;rw [wrap64 (x:=3 *s.F) (by omega) (by omega),wrap64 (x:=2 *s.T) (by omega) (by omega),wrap64 (x:=3 *s.F+2 *s.T) (by omega) (by omega),wrap64 (by omega) (by omega)]
theorem Gz {s:af}(h:cr s):xe (xI s)=some (2 *s.F+s.T+1):=by obtain ⟨h1,h2,h3,h4⟩:=h;unfold xe xI;simp only;rw [wrap64 (x:=2 *s.F) (by omega) (by omega),wrap64 (x:=2 *s.F+s.T) (by omega) (by omega),wrap64 (by omega) (by omega)]
end Dn.S
