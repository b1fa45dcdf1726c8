import Derived.Test.YtjblhgpbkfmkoaaDnYT
import Derived.Test.YtjblhgpbkfmkoaaDnD
/-
  Sizes: the functions on typed values. Conditions: none.
-/
open Go Dn
set_option linter.unusedVariables false
set_option linter.unusedSimpArgs false
namespace Dn.S
structure cD (s:ai):Prop where
 f1:1≤s.F
 f5:s.F≤5
 t0:0≤s.T
 tf:s.T≤s.F
theorem fh (s:ai):cD s↔(1≤s.F∧s.F≤5∧0≤s.T∧s.T≤s.F):=⟨fun ⟨a,b,c,d⟩=>⟨a,b,c,d⟩,fun ⟨a,b,c,d⟩=>⟨a,b,c,d⟩⟩
instance (s:ai):Decidable (cD s):=decidable_of_iff _ (fh s).symm
theorem adQ {a b c d P:Prop} [Decidable a] [Decidable b] [Decidable c] [Decidable d] [Decidable P] (h:P↔a∧b∧c∧d):(if a then if b then if c then some (decide d) else some false else some false else some false)=some (decide P):=by
 by_cases ha:a<;>by_cases hb:b<;>by_cases hc:c<;>by_cases hd:d<;>simp [ha,hb,hc,hd,h]
theorem cD.cases {s:ai} (h:cD s) (P:ai→Prop) (hp: ∀f:Fin 5,∀t:Fin 6,(t:Nat)≤(f:Nat)+1→P ⟨((f:Nat):Int)+1,((t:Nat):Int)⟩):P s:=by
 obtain ⟨F,T⟩:=s
 obtain ⟨h1,h2,h3,h4⟩:=h
 simp only at h1 h2 h3 h4
 have:=hp ⟨(F-1).toNat,by omega⟩ ⟨T.toNat,by omega⟩ (by simp only;omega)
 simp only at this
 rw [show (((F-1).toNat:Nat):Int)+1=F by omega,show ((T.toNat:Nat):Int)=T by omega] at this
 exact this
theorem vJ {s:ai} (h:cD s):n5 s=some (3 *s.F+2 *s.T+1):=h.cases (fun s=>n5 s=some (3 *s.F+2 *s.T+1)) (by decide+kernel)
theorem vK {s:ai} (h:cD s):fb s=some (2 *s.F+s.T+1):=h.cases (fun s=>fb s=some (2 *s.F+s.T+1)) (by decide+kernel)
def ue (s:ai):bP:=⟨s.F,s.T⟩
theorem kY (s:ai):gM (ue s)=some (decide (cD s)):=by
 unfold gM ue
 simp only [J6]
 exact adQ (fh s)
theorem lP (s:ai):eo s=some (decide (cD s)):=by
 have h:=kY s
 unfold gM ue at h
 unfold eo
 exact h
def ur (s:ai):Int:=3 *s.F+2 *s.T+1
theorem vL {s:ai} (h:cD s):ta (ue s)=some (3 *s.F+2 *s.T+1):=by
 obtain ⟨h1,h2,h3,h4⟩:=h
 unfold ta ue
 simp only
 rw [wrap64 (x:=3 *s.F) (by omega) (by omega),wrap64 (x:=2 *s.T) (by omega) (by omega),wrap64 (x:=3 *s.F+2 *s.T) (by omega) (by omega),wrap64 (by omega) (by omega)]
theorem xK {s:ai} (h:cD s):lV (ue s)=some (2 *s.F+s.T+1):=by
 obtain ⟨h1,h2,h3,h4⟩:=h
 unfold lV ue
 simp only
 rw [wrap64 (x:=2 *s.F) (by omega) (by omega),wrap64 (x:=2 *s.F+s.T) (by omega) (by omega),wrap64 (by omega) (by omega)]
end Dn.S
