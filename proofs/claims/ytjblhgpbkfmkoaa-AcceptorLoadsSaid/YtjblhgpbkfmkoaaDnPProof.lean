import Derived.Test.YtjblhgpbkfmkoaaDnPTally2
import Derived.Test.YtjblhgpbkfmkoaaDnPSize
/-
  Commit proofs: what is right is as the document says. Conditions: none.
-/
open Go Dn
set_option linter.unusedVariables false
set_option linter.unusedSimpArgs false
namespace Dn.S
structure uB (s:aj) (p:List ab):Prop where
 sz:eu s
 len:(p.length:Int)=2 *s.F+s.T+1
 ye:uy p
 Q1: ∀e∈p,e.By<BT s
 one: ∀e∈p,∀f∈p,e.View=f.View∧e.Value=f.Value
theorem zn (s:aj) (p:List ab) (hl:p.length<2^32):bE (dz s p) fun b=>b=true↔uB s p:=by
 unfold dz
 simp only [tA,aA]
 by_cases hs:eu s
 rotate_left
 ·simp only [hs,decide_false,Bool.not_false,if_true,aA]
  exact .mk ⟨fun h=>(by cases h),fun h=>absurd h.sz hs⟩
 simp only [hs,decide_true,Bool.not_true,Bool.false_eq_true,if_false,BS hs,aA]
 by_cases hlen:(p.length:Int)=2 *s.F+s.T+1
 rotate_left
 ·simp only [hlen,decide_false,Bool.not_false,if_true,aA]
  exact .mk ⟨fun h=>(by cases h),fun h=>absurd h.len hlen⟩
 obtain ⟨r,e1,h1⟩:=zl p (by omega)
 simp only [hlen,decide_true,Bool.not_true,Bool.false_eq_true,if_false,e1,aA]
 cases r with
 |false=>
  simp only [Bool.not_false,if_true]
  exact .mk ⟨fun h=>(by cases h),fun h=>by have:=h1.2 h.ye;cases this⟩
 |true=>
  have hv:=h1.1 rfl
  obtain ⟨g1,g2,g3,g4⟩:=hs
  have ek:0<p.length:=by omega
  have sT:p.length-1<p.length:=by omega
  simp only [Bool.not_true,Bool.false_eq_true,if_false]
  rw [wrap64 (by omega) (by omega),←hlen,show (p.length:Int)-1=((p.length-1:Nat):Int) by omega]
  simp only [cG sT,DI ⟨g1,g2,g3,g4⟩,aA]
  by_cases hb:p[p.length-1].By<3 *s.F+2 *s.T+1
  rotate_left
  ·simp only [hb,if_false,aA]
   exact .mk ⟨fun h=>(by cases h),fun h=>absurd (h.Q1 _ (List.getElem_mem sT)) hb⟩
  simp only [hb,if_true,gn ek,count_eq p _ _ hl,aA]
  refine .mk ?_
  rw [decide_eq_true_iff]
  constructor
  ·intro hc
   have hc:NY p p[0].View p[0].Value=p.length:=by omega
   have kL: ∀e∈p,e.View=p[0].View∧e.Value=p[0].Value:=by
    intro e he
    have:=List.length_filter_eq_length_iff.1 hc e he
    simpa [zm] using this
   refine ⟨⟨g1,g2,g3,g4⟩,hlen,hv,fun e he=> ?_,fun e he f hf=> ?_⟩
   ·obtain ⟨k,hk,rfl⟩:=List.mem_iff_getElem.1 he
    have:=hv.inc.le sT (i:=k) (by omega)
    simp only [vk] at this
    unfold BT;omega
   ·obtain ⟨a1,a2⟩:=kL e he
    obtain ⟨b1,b2⟩:=kL f hf
    exact ⟨a1.trans b1.symm,a2.trans b2.symm⟩
  ·intro h
   have:NY p p[0].View p[0].Value=p.length:=by
    unfold NY
    rw [List.length_filter_eq_length_iff]
    intro e he
    obtain ⟨a1,a2⟩:=h.one e he _ (List.getElem_mem ek)
    simp [zm,a1,a2]
   omega
def Yy (s:aj) (p:List ab) (k:Nat):Prop:= ∃hk:k<p.length,yc p[k]∧p[k].By<BT s∧p[k].View=(p[0]'(by omega)).View∧p[k].Value=(p[0]'(by omega)).Value∧(0<k→(p[k-1]'(by omega)).By<p[k].By)
theorem DK (s:aj) (p:List ab) (hl:p.length<2^32):bE (jd (Ea s) p) fun b=>b=true↔uB s p:=by
 unfold jd
 simp only [p8,aA]
 by_cases hs:eu s
 rotate_left
 ·simp only [hs,decide_false,Bool.not_false,if_true,aA]
  exact .mk ⟨fun h=>(by cases h),fun h=>absurd h.sz hs⟩
 simp only [hs,decide_true,Bool.not_true,Bool.false_eq_true,if_false,DJ hs,aA]
 by_cases hlen:(p.length:Int)=2 *s.F+s.T+1
 rotate_left
 ·simp only [hlen,decide_false,Bool.not_false,if_true]
  exact .mk ⟨fun h=>(by cases h),fun h=>absurd h.len hlen⟩
 simp only [hlen,decide_true,Bool.not_true,Bool.false_eq_true,if_false]
 have kL:(∀k,k<p.length→Yy s p k)↔uB s p:=by
  constructor
  ·intro h
   have hv:uy p:=gU.1 fun k hk=>⟨hk,(h k hk).2.1,(h k hk).2.2.2.2.2⟩
   refine ⟨hs,hlen,hv,fun e he=> ?_,fun e he f hf=> ?_⟩
   ·obtain ⟨k,hk,rfl⟩:=List.mem_iff_getElem.1 he
    exact (h k hk).2.2.1
   ·obtain ⟨k,hk,rfl⟩:=List.mem_iff_getElem.1 he
    obtain ⟨j,hj,rfl⟩:=List.mem_iff_getElem.1 hf
    obtain ⟨_,_,_,a1,a2,_⟩:=h k hk
    obtain ⟨_,_,_,b1,b2,_⟩:=h j hj
    exact ⟨a1.trans b1.symm,a2.trans b2.symm⟩
  ·intro h k hk
   obtain ⟨_,h1,h2⟩:=gU.2 h.ye k hk
   obtain ⟨a1,a2⟩:=h.one _ (List.getElem_mem hk) _ (List.getElem_mem (show 0<p.length by omega))
   exact ⟨hk,h1,h.Q1 _ (List.getElem_mem hk),a1,a2,h2⟩
 refine bE.bd (p0 p.length (Yy s p) false (fun k hk _=> ?_) ?_) ?_
 ·have h0:0<p.length:=by omega
  unfold ma
  simp only [show ((k:Int)<(p.length:Int)) by omega,if_true,cG hk,gn h0,ux,BU hs,aA]
  rw [wrap64 (x:=(k:Int)+1) (by omega) (by omega),show (k:Int)+1=((k+1:Nat):Int) by omega]
  by_cases c1:yc p[k]
  rotate_left
  ·simp only [c1,decide_false,Bool.not_false,if_true,aA];exact ⟨fun ⟨_,h,_⟩=>absurd h c1,fun _=>trivial⟩
  by_cases c2:3 *s.F+2 *s.T+1≤p[k].By
  ·simp only [c1,c2,decide_true,Bool.not_true,Bool.false_eq_true,if_true,if_false,aA];exact ⟨fun ⟨_,_,h,_⟩=>by unfold BT at h;omega,fun _=>trivial⟩
  by_cases c3:p[k].View=p[0].View
  rotate_left
  ·simp only [c1,c2,c3,decide_true,decide_false,Bool.not_false,Bool.not_true,Bool.false_eq_true,if_true,if_false,aA];exact ⟨fun ⟨_,_,_,h,_⟩=>absurd h c3,fun _=>trivial⟩
  by_cases c4:p[k].Value=p[0].Value
  rotate_left
  ·simp only [c1,c2,c3,c4,decide_true,decide_false,Bool.not_false,Bool.not_true,Bool.false_eq_true,if_true,if_false,aA];exact ⟨fun ⟨_,_,_,_,h,_⟩=>absurd h c4,fun _=>trivial⟩
  simp only [c1,c2,decide_true,Bool.not_true,Bool.false_eq_true,if_false]
  rw [if_neg (by simpa using c3),if_neg (by simpa using c4)]
  by_cases g5:k=0
  ·subst g5
   simp only [show¬((0:Int)<((0:Nat):Int)) by omega,if_false,aA,Bool.false_eq_true]
   exact ⟨fun _=>trivial,fun h=>absurd ⟨hk,c1,by unfold BT;omega,c3,c4,fun h=>by omega⟩ h⟩
  ·have Kw:k-1<p.length:=by omega
   rw [wrap64 (x:=(k:Int)-1) (by omega) (by omega),show ((k:Int)-1)=((k-1:Nat):Int) by omega]
   simp only [show ((0:Int)<(k:Int)) by omega,if_true,cG Kw,aA]
   by_cases g6:p[k].By≤p[k-1].By
   ·simp only [g6,decide_true,if_true];exact ⟨fun ⟨_,_,_,_,_,h⟩=>by have:=h (by omega);omega,fun _=>trivial⟩
   ·simp only [g6,decide_false,Bool.false_eq_true,if_false];exact ⟨fun _=>trivial,fun h=>absurd ⟨hk,c1,by unfold BT;omega,c3,c4,fun _=>by omega⟩ h⟩
 ·unfold ma
  simp only [show¬((p.length:Int)<(p.length:Int)) by omega,if_false]
 ·rintro r (⟨rfl,h⟩|⟨rfl,k,hk,h⟩)
  ·exact .mk ⟨fun _=>kL.1 h,fun _=>rfl⟩
  ·exact .mk ⟨fun h=>(by cases h),fun hr=>absurd (kL.2 hr k hk) h⟩
end Dn.S
