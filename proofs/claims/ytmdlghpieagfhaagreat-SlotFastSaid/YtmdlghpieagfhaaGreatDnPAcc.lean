import Derived.Test.YtmdlghpieagfhaaGreatDnPProof
/-
  Acceptors: what may be, and what is alike. Conditions: none.
-/
open Go Dn
set_option linter.unusedVariables false
set_option linter.unusedSimpArgs false
namespace Dn.S
def Vq (a:ao):dA:=⟨K3 a.S,a.Me,a.View,a.Has,a.At,a.Value,a.Proof,⟨a.cP.L⟩⟩
def Pv (s:af) (me:Int):ao×Int:=if cX s∧0≤me∧me<vl s then (⟨s,me,0,false,0,[],[],⟨[]⟩⟩,0) else (⟨⟨0,0⟩,0,0,false,0,[],[],⟨[]⟩⟩,1)
theorem Pw (s:af) (me:Int):kV s me=some (Pv s me):=by
 unfold kV Pv
 simp only [uF,bl]
 by_cases hs:cX s
 ·simp only [hs,decide_true,Bool.not_true,Bool.false_eq_true,if_false,true_and]
  by_cases h0:me<0
  ·simp only [h0,if_true,bl];rw [if_neg (by omega)]
  ·simp only [h0,if_false,tp hs,bl]
   by_cases h1:3 *s.F+2 *s.T+1≤me
   ·simp only [h1,decide_true,if_true];rw [if_neg (by unfold vl;omega)]
   ·simp only [h1,decide_false,Bool.false_eq_true,if_false];rw [if_pos (by unfold vl;omega)]
 ·simp [hs]
theorem Px (s:af) (me:Int):Ik (K3 s) me=some (Vq (Pv s me).1,(Pv s me).2):=by
 unfold Ik Pv
 simp only [wM,bl]
 by_cases hs:cX s
 ·simp only [hs,decide_true,Bool.not_true,Bool.false_eq_true,if_false,true_and]
  by_cases h0:me<0
  ·simp only [h0,if_true,bl];rw [if_neg (by omega)];rfl
  ·simp only [h0,if_false,NU hs,bl]
   by_cases h1:3 *s.F+2 *s.T+1≤me
   ·simp only [h1,decide_true,if_true];rw [if_neg (by unfold vl;omega)];rfl
   ·simp only [h1,decide_false,Bool.false_eq_true,if_false];rw [if_pos (by unfold vl;omega)];rfl
 ·simp [hs,Vq,K3]
structure YL (a:ao):Prop where
 v0:0≤a.View
 v1:a.View≤100000
 has:a.Has=true→0≤a.At∧a.At≤a.View∧a.Value.length≤6000
 Wt:a.Has=false→a.At=0∧a.Value=[]
 proof:a.Proof=[]∨(Th a.S a.Proof∧ ∀e∈a.Proof,e.View≤a.View)
structure uG (a:ao):Prop where
 sz:cX a.S
 me0:0≤a.Me
 Zw:a.Me<vl a.S
 AO:YL a
 Cn:sE a.cP.L
 all: ∀e∈a.cP.L,e.By<vl a.S∧e.View=a.View
end Dn.S
