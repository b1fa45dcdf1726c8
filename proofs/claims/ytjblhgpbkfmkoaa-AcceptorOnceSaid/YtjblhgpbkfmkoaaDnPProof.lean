import Derived.Test.YtjblhgpbkfmkoaaDnPTally2
import Derived.Test.YtjblhgpbkfmkoaaDnPSize
/-
  Commit proofs: what is right is as the document says. Conditions: none.
-/
open Go Dn
set_option linter.unusedVariables false
set_option linter.unusedSimpArgs false
namespace Dn.S
structure rD (s:ai) (p:List aa):Prop where
 sz:cD s
 len:(p.length:Int)=2 *s.F+s.T+1
 ji:n7 p
 Wo: ∀e∈p,e.By<ur s
 one: ∀e∈p,∀f∈p,e.View=f.View∧e.Value=f.Value
theorem n8 (s:ai) (p:List aa) (hl:p.length<2^32):aO (cW s p) fun b=>b=true↔rD s p:=by
 unfold cW
 simp only [lP,aq]
 by_cases hs:cD s
 rotate_left
 ·simp only [hs,decide_false,Bool.not_false,if_true,aq]
  exact .mk ⟨fun h=>(by cases h),fun h=>absurd h.sz hs⟩
 simp only [hs,decide_true,Bool.not_true,Bool.false_eq_true,if_false,vK hs,aq]
 by_cases hlen:(p.length:Int)=2 *s.F+s.T+1
 rotate_left
 ·simp only [hlen,decide_false,Bool.not_false,if_true,aq]
  exact .mk ⟨fun h=>(by cases h),fun h=>absurd h.len hlen⟩
 obtain ⟨r,e1,h1⟩:=BV p (by omega)
 simp only [hlen,decide_true,Bool.not_true,Bool.false_eq_true,if_false,e1,aq]
 cases r with
 |false=>
  simp only [Bool.not_false,if_true]
  exact .mk ⟨fun h=>(by cases h),fun h=>by have:=h1.2 h.ji;cases this⟩
 |true=>
  have hv:=h1.1 rfl
  obtain ⟨g1,g2,g3,g4⟩:=hs
  have dk:0<p.length:=by omega
  have uV:p.length-1<p.length:=by omega
  simp only [Bool.not_true,Bool.false_eq_true,if_false]
  rw [wrap64 (by omega) (by omega),←hlen,show (p.length:Int)-1=((p.length-1:Nat):Int) by omega]
  simp only [bO uV,vJ ⟨g1,g2,g3,g4⟩,aq]
  by_cases hb:p[p.length-1].By<3 *s.F+2 *s.T+1
  rotate_left
  ·simp only [hb,if_false,aq]
   exact .mk ⟨fun h=>(by cases h),fun h=>absurd (h.Wo _ (List.getElem_mem uV)) hb⟩
  simp only [hb,if_true,jO dk,count_eq p _ _ hl,aq]
  refine .mk ?_
  rw [decide_eq_true_iff]
  constructor
  ·intro hc
   have hc:ud p p[0].View p[0].Value=p.length:=by omega
   have jT: ∀e∈p,e.View=p[0].View∧e.Value=p[0].Value:=by
    intro e he
    have:=List.length_filter_eq_length_iff.1 hc e he
    simpa [mO] using this
   refine ⟨⟨g1,g2,g3,g4⟩,hlen,hv,fun e he=> ?_,fun e he f hf=> ?_⟩
   ·obtain ⟨k,hk,rfl⟩:=List.mem_iff_getElem.1 he
    have:=hv.inc.le uV (i:=k) (by omega)
    simp only [vk] at this
    unfold ur;omega
   ·obtain ⟨a1,a2⟩:=jT e he
    obtain ⟨b1,b2⟩:=jT f hf
    exact ⟨a1.trans b1.symm,a2.trans b2.symm⟩
  ·intro h
   have:ud p p[0].View p[0].Value=p.length:=by
    unfold ud
    rw [List.length_filter_eq_length_iff]
    intro e he
    obtain ⟨a1,a2⟩:=h.one e he _ (List.getElem_mem dk)
    simp [mO,a1,a2]
   omega
def okP (s:ai) (p:List aa) (k:Nat):Prop:= ∃hk:k<p.length,qE p[k]∧p[k].By<ur s∧p[k].View=(p[0]'(by omega)).View∧p[k].Value=(p[0]'(by omega)).Value∧(0<k→(p[k-1]'(by omega)).By<p[k].By)
theorem xL (s:ai) (p:List aa) (hl:p.length<2^32):aO (gO (ue s) p) fun b=>b=true↔rD s p:=by
 unfold gO
 simp only [kY,aq]
 by_cases hs:cD s
 rotate_left
 ·simp only [hs,decide_false,Bool.not_false,if_true,aq]
  exact .mk ⟨fun h=>(by cases h),fun h=>absurd h.sz hs⟩
 simp only [hs,decide_true,Bool.not_true,Bool.false_eq_true,if_false,xK hs,aq]
 by_cases hlen:(p.length:Int)=2 *s.F+s.T+1
 rotate_left
 ·simp only [hlen,decide_false,Bool.not_false,if_true]
  exact .mk ⟨fun h=>(by cases h),fun h=>absurd h.len hlen⟩
 simp only [hlen,decide_true,Bool.not_true,Bool.false_eq_true,if_false]
 have jT:(∀k,k<p.length→okP s p k)↔rD s p:=by
  constructor
  ·intro h
   have hv:n7 p:=jg.1 fun k hk=>⟨hk,(h k hk).2.1,(h k hk).2.2.2.2.2⟩
   refine ⟨hs,hlen,hv,fun e he=> ?_,fun e he f hf=> ?_⟩
   ·obtain ⟨k,hk,rfl⟩:=List.mem_iff_getElem.1 he
    exact (h k hk).2.2.1
   ·obtain ⟨k,hk,rfl⟩:=List.mem_iff_getElem.1 he
    obtain ⟨j,hj,rfl⟩:=List.mem_iff_getElem.1 hf
    obtain ⟨_,_,_,a1,a2,_⟩:=h k hk
    obtain ⟨_,_,_,b1,b2,_⟩:=h j hj
    exact ⟨a1.trans b1.symm,a2.trans b2.symm⟩
  ·intro h k hk
   obtain ⟨_,h1,h2⟩:=jg.2 h.ji k hk
   obtain ⟨a1,a2⟩:=h.one _ (List.getElem_mem hk) _ (List.getElem_mem (show 0<p.length by omega))
   exact ⟨hk,h1,h.Wo _ (List.getElem_mem hk),a1,a2,h2⟩
 refine aO.bd (rB p.length (okP s p) false (fun k hk _=> ?_) ?_) ?_
 ·have h0:0<p.length:=by omega
  unfold nF
  simp only [show ((k:Int)<(p.length:Int)) by omega,if_true,bO hk,jO h0,o9,vL hs,aq]
  rw [wrap64 (x:=(k:Int)+1) (by omega) (by omega),show (k:Int)+1=((k+1:Nat):Int) by omega]
  by_cases c1:qE p[k]
  rotate_left
  ·simp only [c1,decide_false,Bool.not_false,if_true,aq];exact ⟨fun ⟨_,h,_⟩=>absurd h c1,fun _=>trivial⟩
  by_cases c2:3 *s.F+2 *s.T+1≤p[k].By
  ·simp only [c1,c2,decide_true,Bool.not_true,Bool.false_eq_true,if_true,if_false,aq];exact ⟨fun ⟨_,_,h,_⟩=>by unfold ur at h;omega,fun _=>trivial⟩
  by_cases c3:p[k].View=p[0].View
  rotate_left
  ·simp only [c1,c2,c3,decide_true,decide_false,Bool.not_false,Bool.not_true,Bool.false_eq_true,if_true,if_false,aq];exact ⟨fun ⟨_,_,_,h,_⟩=>absurd h c3,fun _=>trivial⟩
  by_cases c4:p[k].Value=p[0].Value
  rotate_left
  ·simp only [c1,c2,c3,c4,decide_true,decide_false,Bool.not_false,Bool.not_true,Bool.false_eq_true,if_true,if_false,aq];exact ⟨fun ⟨_,_,_,_,h,_⟩=>absurd h c4,fun _=>trivial⟩
  simp only [c1,c2,decide_true,Bool.not_true,Bool.false_eq_true,if_false]
  rw [if_neg (by simpa using c3),if_neg (by simpa using c4)]
  by_cases g5:k=0
  ·subst g5
   simp only [show¬((0:Int)<((0:Nat):Int)) by omega,if_false,aq,Bool.false_eq_true]
   exact ⟨fun _=>trivial,fun h=>absurd ⟨hk,c1,by unfold ur;omega,c3,c4,fun h=>by omega⟩ h⟩
  ·have NN:k-1<p.length:=by omega
   rw [wrap64 (x:=(k:Int)-1) (by omega) (by omega),show ((k:Int)-1)=((k-1:Nat):Int) by omega]
   simp only [show ((0:Int)<(k:Int)) by omega,if_true,bO NN,aq]
   by_cases g6:p[k].By≤p[k-1].By
   ·simp only [g6,decide_true,if_true];exact ⟨fun ⟨_,_,_,_,_,h⟩=>by have:=h (by omega);omega,fun _=>trivial⟩
   ·simp only [g6,decide_false,Bool.false_eq_true,if_false];exact ⟨fun _=>trivial,fun h=>absurd ⟨hk,c1,by unfold ur;omega,c3,c4,fun _=>by omega⟩ h⟩
 ·unfold nF
  simp only [show¬((p.length:Int)<(p.length:Int)) by omega,if_false]
 ·rintro r (⟨rfl,h⟩|⟨rfl,k,hk,h⟩)
  ·exact .mk ⟨fun _=>jT.1 h,fun _=>rfl⟩
  ·exact .mk ⟨fun h=>(by cases h),fun hr=>absurd (jT.2 hr k hk) h⟩
end Dn.S
