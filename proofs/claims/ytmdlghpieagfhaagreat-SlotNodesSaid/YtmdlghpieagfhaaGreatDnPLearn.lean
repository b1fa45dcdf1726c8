import Derived.Test.YtmdlghpieagfhaaGreatDnPAcc
/-
  Learners: which may be, which are alike, what they come to; LearnerMay, LearnerTurns. Conditions: none.
-/
set_option linter.unusedVariables false
set_option linter.unusedSimpArgs false
open Go Dn
namespace Dn.S
def Ez (l:aq):bq:=⟨vF l.S,⟨l.aO.L⟩,⟨l.aP.L⟩,⟨l.Told.L⟩,l.bE,l.Value⟩
def Qa (s:ak)(L:List aa)(last:Int):Prop:=(∀e∈L,e.By<tF s/\e.View<=last)/\qZ L
structure kJ (l:aq):Prop where
 sz:cR l.S
 len:l.Value.length<=6000
 val:l.bE=false->l.Value=[]
 acc:Qa l.S l.aO.L 100000
 com:Qa l.S l.aP.L 100000
 told:Qa l.S l.Told.L 0
theorem Xd (a b:bq)(h1:a.aO.L.length<2^60)(h2:a.aP.L.length<2^60)(h3:a.Told.L.length<2^60):sM a b=some (decide (a=b)):=by obtain ⟨⟨s1,s2⟩,⟨p⟩,⟨q⟩,⟨r⟩,d,v⟩:=a;obtain ⟨⟨t1,t2⟩,⟨p'⟩,⟨q'⟩,⟨r'⟩,d',v'⟩:=b;unfold sM;simp only [pi _ _ h1,pi _ _ h2,pi _ _ h3,ar,PT];by_cases c1:s1=t1<;>by_cases c2:s2=t2<;>by_cases c3:d=d'<;>by_cases c4:v=v'<;>by_cases c5:p=p'<;>by_cases c6:q=q'<;>by_cases c7:r=r'<;>simp [c1,c2,c3,c4,c5,c6,c7]
def BO (s:ak):aq×Int:=if cR s then (⟨s,⟨[]⟩,⟨[]⟩,⟨[]⟩,false,[]⟩,0) else (⟨⟨0,0⟩,⟨[]⟩,⟨[]⟩,⟨[]⟩,false,[]⟩,1)
theorem IF (s:ak):po s=some (BO s):=by
 unfold po BO;rw [nI,ar];by_cases h:cR s
 ·rw [decide_eq_true h,if_neg (by decide),if_pos h]
 ·rw [decide_eq_false h,if_pos (by decide),if_neg h]
theorem Qb (s:ak):Ca (vF s)=some (Ez (BO s).1,(BO s).2):=by
 unfold Ca BO;rw [pL,ar];by_cases h:cR s
 ·rw [decide_eq_true h,if_neg (by decide),if_pos h];rfl
 ·rw [decide_eq_false h,if_pos (by decide),if_neg h];rfl
end Dn.S
