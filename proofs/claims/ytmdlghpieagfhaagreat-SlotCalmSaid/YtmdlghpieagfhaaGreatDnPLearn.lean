import Derived.Test.YtmdlghpieagfhaaGreatDnPAcc
/- Learners: which may be, which are alike, what they come to;. Conditions: none. -/
set_option linter.unusedVariables false
set_option linter.unusedSimpArgs false
open Go Dn
namespace Dn.S
def plL (l:ar):eM:=⟨plS l.S,⟨l.aY.L⟩,⟨l.aR.L⟩,⟨l.Told.L⟩,l.bw,l.Value⟩
def KQ (s:ae)(L:List aa)(last:Int):Prop:=(∀e∈L,e.By<kz s/\e.View<=last)/\qm L
structure lZ (l:ar):Prop where
 sz:cC l.S
 len:l.Value.length<=6000
 val:l.bw=false->l.Value=[]
 acc:KQ l.S l.aY.L 100000
 sL:KQ l.S l.aR.L 100000
 told:KQ l.S l.Told.L 0
def zL (s:ae):ar×Int:=if cC s then (⟨s,⟨[]⟩,⟨[]⟩,⟨[]⟩,false,[]⟩,0) else (⟨⟨0,0⟩,⟨[]⟩,⟨[]⟩,⟨[]⟩,false,[]⟩,1)
theorem G5 (s:ae):o9 s=some (zL s):=by
 unfold o9 zL;rw [iK,au];by_cases h:cC s
 ·rw [decide_eq_true h,if_neg (by decide),if_pos h]
 ·rw [decide_eq_false h,if_pos (by decide),if_neg h]
end Dn.S
