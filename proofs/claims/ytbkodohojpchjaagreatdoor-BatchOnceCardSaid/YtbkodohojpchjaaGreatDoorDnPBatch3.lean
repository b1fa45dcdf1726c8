import Derived.Test.YtbkodohojpchjaaGreatDoorDnPBatch2
import Derived.Test.YtbkodohojpchjaaGreatDoorDnYV
/- BatchBack. Conditions: none. -/
set_option linter.unusedVariables false
set_option linter.unusedSimpArgs false
open Go.Lit renaming int→bN
open Go Dn
namespace Dn.S
theorem U0 (l:List aa):bG (sC l) λb=>b=true->l.length<=30:=by
 unfold sC;refine bG.bd (P:=λw=>match w with| .inl _=>l.length<=30| .inr p=>p=false) ?_ ?_
 ·refine bG.loop (λst=> ∃i:Nat,st=(i:Int)/\i<=l.length/\i<=30) (λst=>l.length-st.toNat) ⟨0,rfl,by omega,by omega⟩ ?_;rintro st ⟨i,rfl,h1,h2⟩;unfold Ac;by_cases cI:i<l.length;rotate_left
  ·rw [if_neg (by omega)];exact .mk (by show l.length<=30;omega)
  rw [if_pos (by omega)];by_cases P0:i=30
  ·subst P0;rw [if_pos (by decide),az,if_pos rfl];exact .mk rfl
  rw [if_neg (by omega),b7 cI];by_cases hp:(200:Int)<(l[i].Path.length:Int)
  ·rw [if_pos hp,az,if_pos rfl];exact .mk rfl
  rw [if_neg hp,b7 cI,az];by_cases hv:(1100:Int)<(l[i].Value.length:Int)
  ·rw [decide_eq_true hv,if_pos rfl];exact .mk rfl
  rw [decide_eq_false hv,if_neg (by simp),wrap64 (by omega) (by omega)];exact .mk ⟨⟨i+1,by simp,by omega,by omega⟩,by simp;omega⟩
 ·rintro (_|p) h
  ·exact .mk λ_=>h
  ·exact .mk λhp=>by rw [hp] at h;cases h
theorem ah2 {n:Int}(h:(bN .i64 n).wf=true):i64 n:=by have:=Zn h;unfold i64;omega
theorem ah3 {a:List aa}(hw: ∀y∈a,((bN .i64 y.Client).wf=true)/\((bN .i64 y.Seq).wf=true)/\((bN .i64 y.Kind).wf=true)/\(y.Path.length<=Go.maxLen)/\(y.Value.length<=Go.maxLen)/\((bN .i64 y.Version).wf=true)/\((bN .i64 y.Session).wf=true)/\((bN .i64 y.Span).wf=true)): ∀o∈a,Kg o:=by intro o ho n hn;obtain ⟨q1,q2,q3,_,_,q4,q5,q6⟩:=hw o ho;simp only [GF,List.mem_cons,List.not_mem_nil,or_false] at hn;rcases hn with rfl|rfl|rfl|rfl|rfl|rfl<;>exact ah2 ‹_›
end Dn.S
