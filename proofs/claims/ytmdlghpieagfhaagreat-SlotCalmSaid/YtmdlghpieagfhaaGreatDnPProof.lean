import Derived.Test.YtmdlghpieagfhaaGreatDnPTally2
import Derived.Test.YtmdlghpieagfhaaGreatDnPSize
/- Commit proofs: what is right is as the document says. Conditions: none. -/
set_option linter.unusedVariables false
set_option linter.unusedSimpArgs false
open List renaming length_filter_eq_length_iff→cV,getElem_mem→BY
open Bool renaming false_eq_true→sh,not_false→AI,not_true→AT
open Go Dn
namespace Dn.S
structure uN (s:ae) (p:List aa):Prop where
 sz:cC s
 len:(p.length:Int)=2 *s.F+s.T+1
 jA:qm p
 xD: ∀e∈p,e.By<kz s
 one: ∀e∈p,∀f∈p,e.View=f.View/\e.Value=f.Value
theorem oo (s:ae)(p:List aa)(hl:p.length<2^32):aK (kX s p) λb=>b=true↔uN s p:=by
 unfold kX;simp only [iK,au];by_cases hs:cC s;rotate_left
 ·simp only [hs,decide_false,AI,if_true,au];exact .mk ⟨λh=>(by cases h),λh=>absurd h.sz hs⟩
 simp only [hs,decide_true,AT,sh,if_false,yP hs,au];by_cases hlen:(p.length:Int)=2 *s.F+s.T+1;rotate_left
 ·simp only [hlen,decide_false,AI,if_true,au];exact .mk ⟨λh=>(by cases h),λh=>absurd h.len hlen⟩
 obtain ⟨r,e1,h1⟩:=L0 p (by omega);simp only [hlen,decide_true,AT,sh,if_false,e1,au];cases r with
 |false=>simp only [AI,if_true];exact .mk ⟨λh=>(by cases h),λh=>by have:=h1.2 h.jA;cases this⟩
 |true=>
  have hv:=h1.1 rfl;obtain ⟨g1,g2,g3,g4⟩:=hs;have iY:0<p.length:=by omega
  have aca:p.length-1<p.length:=by omega
  simp only [AT,sh,if_false];rw [wrap64 (by omega) (by omega),<-hlen,show (p.length:Int)-1=((p.length-1:Nat):Int) by omega];simp only [bB aca,om ⟨g1,g2,g3,g4⟩,au];by_cases hb:p[p.length-1].By<3 *s.F+2 *s.T+1;rotate_left
  ·simp only [hb,if_false,au];exact .mk ⟨λh=>(by cases h),λh=>absurd (h.xD _ (BY aca)) hb⟩
  simp only [hb,if_true,yM iY,count_eq p _ _ hl,au];refine .mk ?_;rw [decide_eq_true_iff];constructor
  ·intro hc;have hc:wJ p p[0].View p[0].Value=p.length:=by omega
   have ku: ∀e∈p,e.View=p[0].View/\e.Value=p[0].Value:=by intro e he;have:=cV.1 hc e he;simpa [ve] using this
   refine ⟨⟨g1,g2,g3,g4⟩,hlen,hv,λe he=> ?_,λe he f hf=> ?_⟩
   ·obtain ⟨k,hk,rfl⟩:=List.mem_iff_getElem.1 he;have:=hv.inc.le aca (i:=k) (by omega);simp only [vk] at this;unfold kz;omega
   ·obtain ⟨a1,a2⟩:=ku e he;obtain ⟨b1,b2⟩:=ku f hf;exact ⟨a1.trans b1.symm,a2.trans b2.symm⟩
  ·intro h;have:wJ p p[0].View p[0].Value=p.length:=by unfold wJ;rw [cV];intro e he;obtain ⟨a1,a2⟩:=h.one e he _ (BY iY);simp [ve,a1,a2]
   omega
end Dn.S
