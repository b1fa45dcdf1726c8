import Derived.Test.YtmdlghpieagfhaaGreatDnYT
import Derived.Test.YtmdlghpieagfhaaGreatDnD
/-
  Sizes: the functions on typed values. Conditions: none.
-/
open Go Dn
set_option linter.unusedVariables false
set_option linter.unusedSimpArgs false
namespace Dn.S
structure cX (s:af):Prop where
 f1:1≤s.F
 f5:s.F≤5
 t0:0≤s.T
 tf:s.T≤s.F
theorem fY (s:af):cX s↔(1≤s.F∧s.F≤5∧0≤s.T∧s.T≤s.F):=⟨fun ⟨a,b,c,d⟩=>⟨a,b,c,d⟩,fun ⟨a,b,c,d⟩=>⟨a,b,c,d⟩⟩
instance (s:af):Decidable (cX s):=decidable_of_iff _ (fY s).symm
theorem ahI {a b c d P:Prop} [Decidable a] [Decidable b] [Decidable c] [Decidable d] [Decidable P] (h:P↔a∧b∧c∧d):(if a then if b then if c then some (decide d) else some false else some false else some false)=some (decide P):=by
 by_cases ha:a<;>by_cases hb:b<;>by_cases hc:c<;>by_cases hd:d<;>simp [ha,hb,hc,hd,h]
theorem cX.cases {s:af} (h:cX s) (P:af→Prop) (hp: ∀f:Fin 5,∀t:Fin 6,(t:Nat)≤(f:Nat)+1→P ⟨((f:Nat):Int)+1,((t:Nat):Int)⟩):P s:=by
 obtain ⟨F,T⟩:=s
 obtain ⟨h1,h2,h3,h4⟩:=h
 simp only at h1 h2 h3 h4
 have:=hp ⟨(F-1).toNat,by omega⟩ ⟨T.toNat,by omega⟩ (by simp only;omega)
 simp only at this
 rw [show (((F-1).toNat:Nat):Int)+1=F by omega,show ((T.toNat:Nat):Int)=T by omega] at this
 exact this
theorem tp {s:af} (h:cX s):mf s=some (3 *s.F+2 *s.T+1):=h.cases (fun s=>mf s=some (3 *s.F+2 *s.T+1)) (by decide+kernel)
theorem IG {s:af} (h:cX s):kz s=some (2 *s.F+s.T+1):=h.cases (fun s=>kz s=some (2 *s.F+s.T+1)) (by decide+kernel)
def K3 (s:af):cM:=⟨s.F,s.T⟩
theorem wM (s:af):mw (K3 s)=some (decide (cX s)):=by
 unfold mw K3
 simp only [acY]
 exact ahI (fY s)
theorem uF (s:af):hU s=some (decide (cX s)):=by
 have h:=wM s
 unfold mw K3 at h
 unfold hU
 exact h
def vl (s:af):Int:=3 *s.F+2 *s.T+1
theorem NU {s:af} (h:cX s):xY (K3 s)=some (3 *s.F+2 *s.T+1):=by
 obtain ⟨h1,h2,h3,h4⟩:=h
 unfold xY K3
 simp only
 rw [wrap64 (x:=3 *s.F) (by omega) (by omega),wrap64 (x:=2 *s.T) (by omega) (by omega),wrap64 (x:=3 *s.F+2 *s.T) (by omega) (by omega),wrap64 (by omega) (by omega)]
theorem KJ {s:af} (h:cX s):sZ (K3 s)=some (2 *s.F+s.T+1):=by
 obtain ⟨h1,h2,h3,h4⟩:=h
 unfold sZ K3
 simp only
 rw [wrap64 (x:=2 *s.F) (by omega) (by omega),wrap64 (x:=2 *s.F+s.T) (by omega) (by omega),wrap64 (by omega) (by omega)]
end Dn.S
