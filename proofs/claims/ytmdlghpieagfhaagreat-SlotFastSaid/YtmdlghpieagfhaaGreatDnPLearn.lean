import Derived.Test.YtmdlghpieagfhaaGreatDnPAcc
/-
  Learners: which may be, which are alike, what they come to; LearnerMay, LearnerTurns. Conditions: none.
-/
open Go Dn
set_option linter.unusedVariables false
set_option linter.unusedSimpArgs false
namespace Dn.S
def plL (l:ar):cC:=⟨K3 l.S,⟨l.aZ.L⟩,⟨l.bA.L⟩,⟨l.Told.L⟩,l.ch,l.Value⟩
def Hn (s:af) (L:List aa) (last:Int):Prop:=(∀e∈L,e.By<vl s∧e.View≤last)∧sE L
structure uH (l:ar):Prop where
 sz:cX l.S
 len:l.Value.length≤6000
 val:l.ch=false→l.Value=[]
 acc:Hn l.S l.aZ.L 100000
 Wv:Hn l.S l.bA.L 100000
 told:Hn l.S l.Told.L 0
def xG (s:af):ar×Int:=if cX s then (⟨s,⟨[]⟩,⟨[]⟩,⟨[]⟩,false,[]⟩,0) else (⟨⟨0,0⟩,⟨[]⟩,⟨[]⟩,⟨[]⟩,false,[]⟩,1)
theorem KM (s:af):mq s=some (xG s):=by
 unfold mq xG
 rw [uF,bl]
 by_cases h:cX s
 ·rw [decide_eq_true h,if_neg (by decide),if_pos h]
 ·rw [decide_eq_false h,if_pos (by decide),if_neg h]
theorem Pz (s:af):Il (K3 s)=some (plL (xG s).1,(xG s).2):=by
 unfold Il xG
 rw [wM,bl]
 by_cases h:cX s
 ·rw [decide_eq_true h,if_neg (by decide),if_pos h];rfl
 ·rw [decide_eq_false h,if_pos (by decide),if_neg h];rfl
end Dn.S
