import Derived.Test.YtmdlghpieagfhaaGreatDnPAcc
/-
  Learners: which may be, which are alike, what they come to; LearnerMay, LearnerTurns. Conditions: none.
-/
set_option linter.unusedVariables false
set_option linter.unusedSimpArgs false
open Go Dn
namespace Dn.S
def plL (l:ar):dj:=⟨xI l.S,⟨l.bj.L⟩,⟨l.bp.L⟩,⟨l.Told.L⟩,l.cq,l.Value⟩
def Mv (s:af)(L:List aa)(last:Int):Prop:=(∀e∈L,e.By<uI s/\e.View<=last)/\qz L
structure pe (l:ar):Prop where
 sz:cr l.S
 len:l.Value.length<=6000
 val:l.cq=false->l.Value=[]
 acc:Mv l.S l.bj.L 100000
 V5:Mv l.S l.bp.L 100000
 told:Mv l.S l.Told.L 0
theorem N8 (a b:ar)(h1:a.bj.L.length<2^60)(h2:a.bp.L.length<2^60)(h3:a.Told.L.length<2^60):qc a b=some (decide (a=b)):=by obtain ⟨⟨s1,s2⟩,⟨p⟩,⟨q⟩,⟨r⟩,d,v⟩:=a;obtain ⟨⟨t1,t2⟩,⟨p'⟩,⟨q'⟩,⟨r'⟩,d',v'⟩:=b;unfold qc;simp only [lm _ _ h1,lm _ _ h2,lm _ _ h3,ap,JI];by_cases c1:s1=t1<;>by_cases c2:s2=t2<;>by_cases c3:d=d'<;>by_cases c4:v=v'<;>by_cases c5:p=p'<;>by_cases c6:q=q'<;>by_cases c7:r=r'<;>simp [c1,c2,c3,c4,c5,c6,c7]
def AD (s:af):ar×Int:=if cr s then (⟨s,⟨[]⟩,⟨[]⟩,⟨[]⟩,false,[]⟩,0) else (⟨⟨0,0⟩,⟨[]⟩,⟨[]⟩,⟨[]⟩,false,[]⟩,1)
theorem GF (s:af):pj s=some (AD s):=by
 unfold pj AD;rw [nN,ap];by_cases h:cr s
 ·rw [decide_eq_true h,if_neg (by decide),if_pos h]
 ·rw [decide_eq_false h,if_pos (by decide),if_neg h]
theorem Mw (s:af):Hj (xI s)=some (plL (AD s).1,(AD s).2):=by
 unfold Hj AD;rw [pC,ap];by_cases h:cr s
 ·rw [decide_eq_true h,if_neg (by decide),if_pos h];rfl
 ·rw [decide_eq_false h,if_pos (by decide),if_neg h];rfl
end Dn.S
