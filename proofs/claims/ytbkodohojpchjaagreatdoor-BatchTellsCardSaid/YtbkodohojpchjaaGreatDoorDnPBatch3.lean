import Derived.Test.YtbkodohojpchjaaGreatDoorDnPBatch2
/-
  BatchBack. Conditions: none.
-/
set_option linter.unusedVariables false
set_option linter.unusedSimpArgs false
open Go.Lit renaming int→aQ
open Bool renaming false_eq_true→sh,not_true→AI
open Go Dn
namespace Dn.S
theorem VW (l:List ab):cm (o4 l) λb=>b=true->l.length<=30:=by
 unfold o4;refine cm.bd (P:=λw=>match w with| .inl _=>l.length<=30| .inr p=>p=false) ?_ ?_
 ·refine cm.loop (λst=> ∃i:Nat,st=(i:Int)/\i<=l.length/\i<=30) (λst=>l.length-st.toNat) ⟨0,rfl,by omega,by omega⟩ ?_;rintro st ⟨i,rfl,h1,h2⟩;unfold sH;by_cases cz:i<l.length;rotate_left
  ·rw [if_neg (by omega)];exact .mk (by show l.length<=30;omega)
  rw [if_pos (by omega)];by_cases IV:i=30
  ·subst IV;rw [if_pos (by decide),aL,if_pos rfl];exact .mk rfl
  rw [if_neg (by omega),dQ cz];by_cases hp:(200:Int)<(l[i].Path.length:Int)
  ·rw [if_pos hp,aL,if_pos rfl];exact .mk rfl
  rw [if_neg hp,dQ cz,aL];by_cases hv:(1100:Int)<(l[i].Value.length:Int)
  ·rw [decide_eq_true hv,if_pos rfl];exact .mk rfl
  rw [decide_eq_false hv,if_neg (by simp),wrap64 (by omega) (by omega)];exact .mk ⟨⟨i+1,by simp,by omega,by omega⟩,by simp;omega⟩
 ·rintro (_|p) h
  ·exact .mk λ_=>h
  ·exact .mk λhp=>by rw [hp] at h;cases h
def M4 (o:ab):aF:=⟨o.Client,o.Seq,o.Kind,o.Path,o.Value,o.Version,o.Session,o.Span⟩
theorem Xo {l:List ab}(hl:l.length<=1000):tT l=some (l.map M4):=by
 unfold tT;refine cm.eq (cm.bd (P:=λw=>w=l.map M4) ?_ λw hw=> .mk hw);refine cm.count (λk=>((l.take k).map M4,(k:Int))) l.length (λ_=>True) (by simp) trivial (λk hk _=> ?_) (λ_=> ?_)
 ·unfold tK;simp only;rw [if_pos (by omega),dQ hk,if_pos (by simp;omega),wrap64 (by omega) (by omega)];refine .mk ⟨?_,trivial⟩;rw [List.take_add_one,List.getElem?_eq_getElem hk,List.map_append];rfl
 ·unfold tK;simp only;rw [if_neg (by omega),List.take_length];exact .mk rfl
theorem Zs {a:List aF}(hl:a.length<=1000):sI a a=some true:=by
 unfold sI;rw [decide_eq_true rfl];simp only [AI,sh,if_false];refine cm.eq (cm.bd (P:=λw=> ∃u,w= .inl u) ?_ ?_)
 ·refine cm.loop (λst=> ∃i:Nat,st=(i:Int)/\i<=a.length) (λst=>a.length-st.toNat) ⟨0,rfl,by omega⟩ ?_;rintro st ⟨i,rfl,h1⟩;unfold vq;by_cases cz:i<a.length;rotate_left
  ·rw [if_neg (by omega)];exact .mk ⟨(),rfl⟩
  rw [if_pos (by omega),dQ cz,dQ cz];simp only [decide_true,Bool.and_self,AI,sh,if_false];rw [wrap64 (by omega) (by omega)];exact .mk ⟨⟨i+1,by simp,by omega⟩,by simp;omega⟩
 ·rintro w ⟨u,rfl⟩;exact .mk rfl
theorem Zt {n:Int}(h:(aQ .i64 n).wf=true):i64 n:=by have:=Q4 h;unfold i64;omega
theorem Zu {a:List ab}(hw: ∀y∈a,((aQ .i64 y.Client).wf=true)/\((aQ .i64 y.Seq).wf=true)/\((aQ .i64 y.Kind).wf=true)/\(y.Path.length<=Go.maxLen)/\(y.Value.length<=Go.maxLen)/\((aQ .i64 y.Version).wf=true)/\((aQ .i64 y.Session).wf=true)/\((aQ .i64 y.Span).wf=true)): ∀o∈a,Df o:=by intro o ho n hn;obtain ⟨q1,q2,q3,_,_,q4,q5,q6⟩:=hw o ho;simp only [uB,List.mem_cons,List.not_mem_nil,or_false] at hn;rcases hn with rfl|rfl|rfl|rfl|rfl|rfl<;>exact Zt ‹_›
end Dn.S
