import Derived.Test.YtmdlghpieagfhaaGreatDnPAcc
/-
  Learners: which may be, which are alike, what they come to; LearnerMay, LearnerTurns. Conditions: none.
-/
set_option linter.unusedVariables false
set_option linter.unusedSimpArgs false
open Go Dn
namespace Dn.S
def plL (l:aq):ez:=⟨plS l.S,⟨l.aY.L⟩,⟨l.bn.L⟩,⟨l.Told.L⟩,l.bQ,l.Value⟩
def Ku (s:ae)(L:List aa)(last:Int):Prop:=(∀e∈L,e.By<mS s/\e.View<=last)/\pZ L
structure lN (l:aq):Prop where
 sz:cC l.S
 len:l.Value.length<=6000
 val:l.bQ=false->l.Value=[]
 acc:Ku l.S l.aY.L 100000
 zk:Ku l.S l.bn.L 100000
 told:Ku l.S l.Told.L 0
def zh (s:ae):aq×Int:=if cC s then (⟨s,⟨[]⟩,⟨[]⟩,⟨[]⟩,false,[]⟩,0) else (⟨⟨0,0⟩,⟨[]⟩,⟨[]⟩,⟨[]⟩,false,[]⟩,1)
theorem GC (s:ae):oR s=some (zh s):=by
 unfold oR zh;rw [jO,au];by_cases h:cC s
 ·rw [decide_eq_true h,if_neg (by decide),if_pos h]
 ·rw [decide_eq_false h,if_pos (by decide),if_neg h]
end Dn.S
