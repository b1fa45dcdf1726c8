import Derived.Test.YtjblhgpbkfmkoaaDnYT
import Derived.Test.YtjblhgpbkfmkoaaDnC
/-
  Sizes: the functions on typed values. Conditions: none.
-/
open Go Dn
set_option linter.unusedVariables false
set_option linter.unusedSimpArgs false
namespace Dn.S
structure eu (s:aj):Prop where
 f1:1≤s.F
 f5:s.F≤5
 t0:0≤s.T
 tf:s.T≤s.F
theorem r8 (s:aj):eu s↔(1≤s.F∧s.F≤5∧0≤s.T∧s.T≤s.F):=⟨fun ⟨a,b,c,d⟩=>⟨a,b,c,d⟩,fun ⟨a,b,c,d⟩=>⟨a,b,c,d⟩⟩
instance (s:aj):Decidable (eu s):=decidable_of_iff _ (r8 s).symm
theorem W6 {a b c d P:Prop} [Decidable a] [Decidable b] [Decidable c] [Decidable d] [Decidable P] (h:P↔a∧b∧c∧d):(if a then if b then if c then some (decide d) else some false else some false else some false)=some (decide P):=by
 by_cases ha:a<;>by_cases hb:b<;>by_cases hc:c<;>by_cases hd:d<;>simp [ha,hb,hc,hd,h]
theorem eu.cases {s:aj} (h:eu s) (P:aj→Prop) (hp: ∀f:Fin 5,∀t:Fin 6,(t:Nat)≤(f:Nat)+1→P ⟨((f:Nat):Int)+1,((t:Nat):Int)⟩):P s:=by
 obtain ⟨F,T⟩:=s
 obtain ⟨h1,h2,h3,h4⟩:=h
 simp only at h1 h2 h3 h4
 have:=hp ⟨(F-1).toNat,by omega⟩ ⟨T.toNat,by omega⟩ (by simp only;omega)
 simp only at this
 rw [show (((F-1).toNat:Nat):Int)+1=F by omega,show ((T.toNat:Nat):Int)=T by omega] at this
 exact this
theorem DI {s:aj} (h:eu s):oe s=some (3 *s.F+2 *s.T+1):=h.cases (fun s=>oe s=some (3 *s.F+2 *s.T+1)) (by decide+kernel)
theorem BS {s:aj} (h:eu s):gx s=some (2 *s.F+s.T+1):=h.cases (fun s=>gx s=some (2 *s.F+s.T+1)) (by decide+kernel)
def Ea (s:aj):bZ:=⟨s.F,s.T⟩
theorem p8 (s:aj):jc (Ea s)=some (decide (eu s)):=by
 unfold jc Ea
 simp only [G4]
 exact W6 (r8 s)
theorem tA (s:aj):dH s=some (decide (eu s)):=by
 have h:=p8 s
 unfold jc Ea at h
 unfold dH
 exact h
def BT (s:aj):Int:=3 *s.F+2 *s.T+1
theorem BU {s:aj} (h:eu s):vd (Ea s)=some (3 *s.F+2 *s.T+1):=by
 obtain ⟨h1,h2,h3,h4⟩:=h
 unfold vd Ea
 simp only
 rw [wrap64 (x:=3 *s.F) (by omega) (by omega),wrap64 (x:=2 *s.T) (by omega) (by omega),wrap64 (x:=3 *s.F+2 *s.T) (by omega) (by omega),wrap64 (by omega) (by omega)]
theorem DJ {s:aj} (h:eu s):nk (Ea s)=some (2 *s.F+s.T+1):=by
 obtain ⟨h1,h2,h3,h4⟩:=h
 unfold nk Ea
 simp only
 rw [wrap64 (x:=2 *s.F) (by omega) (by omega),wrap64 (x:=2 *s.F+s.T) (by omega) (by omega),wrap64 (by omega) (by omega)]
end Dn.S
