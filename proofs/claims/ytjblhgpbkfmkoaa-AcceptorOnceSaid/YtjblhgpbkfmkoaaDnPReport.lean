import Derived.Test.YtjblhgpbkfmkoaaDnPProof
import Derived.Test.YtjblhgpbkfmkoaaDnYV
/-
  Certificates: what may be, and what binds. Conditions: none.
-/
open Go Dn
set_option linter.unusedVariables false
set_option linter.unusedSimpArgs false
namespace Dn.S
theorem GF {s:ai} (h:cD s):ki s=some (2 *s.F+2 *s.T+1):=h.cases (fun s=>ki s=some (2 *s.F+2 *s.T+1)) (by decide+kernel)
theorem Ez {s:ai} (h:cD s):iX s=some (s.F+s.T+1):=h.cases (fun s=>iX s=some (s.F+s.T+1)) (by decide+kernel)
theorem IG {s:ai} (h:cD s):q8 (ue s)=some (2 *s.F+2 *s.T+1):=h.cases (fun s=>q8 (ue s)=some (2 *s.F+2 *s.T+1)) (by decide+kernel)
theorem GG {s:ai} (h:cD s):oU (ue s)=some (s.F+s.T+1):=h.cases (fun s=>oU (ue s)=some (s.F+s.T+1)) (by decide+kernel)
def xM (p:List aa):Int×List UInt8×Bool:=match p with|[]=>(-1,[],false)|e::_=>(e.View,e.Value,true)
theorem AS {p:List aa} (h:0<p.length):(xM p).1=p[0].View:=by
 cases p with
 |nil=>simp at h
 |cons x y=>rfl
theorem ql (p:List aa):jF p=some (xM p):=by
 cases p with
 |nil=>rfl
 |cons e r=>
  unfold jF xM
  rw [if_neg (by simp;omega)]
  rfl
theorem GH (p:List aa):zS p=some (xM p):=ql p
theorem Dd (r:al):dF r=some (xM r.Proof).1:=by
 unfold dF
 rw [ql]
 cases r.Proof<;>rfl
theorem GI (s:ai) (p:List aa) (hl:p.length<2^32):gO (ue s) p=cW s p:=by
 obtain ⟨r1,e1,h1⟩:=n8 s p hl
 obtain ⟨r2,e2,h2⟩:=xL s p hl
 rw [e1,e2]
 congr 1
 cases r1<;>cases r2<;>simp_all
theorem GJ (s:ai) (r:al) (hl:r.Proof.length<2^32):aO (gj s r) fun b=>vd (ue s) r=some b∧(b=true→0≤r.By):=by
 unfold gj vd
 rw [lP,kY,GI s _ hl,Dd]
 simp only [aq]
 by_cases hs:cD s
 rotate_left
 ·simp only [hs,decide_false,Bool.not_false,if_true,aq];exact .mk ⟨rfl,fun h=>(by cases h)⟩
 simp only [hs,decide_true,Bool.not_true,Bool.false_eq_true,if_false,vJ hs,vL hs,aq]
 by_cases c1:r.By<0
 ·simp only [c1,if_true,aq];exact .mk ⟨rfl,fun h=>(by cases h)⟩
 by_cases c2:3 *s.F+2 *s.T+1≤r.By
 ·simp only [c1,c2,if_true,if_false,aq];exact .mk ⟨rfl,fun h=>(by cases h)⟩
 by_cases c3:r.jW<1
 ·simp only [c1,c2,c3,if_true,if_false,aq];exact .mk ⟨rfl,fun h=>(by cases h)⟩
 simp only [c1,c2,c3,if_false,aq]
 by_cases c4:(100000:Int)<r.jW
 ·simp only [c4,decide_true,if_true];exact .mk ⟨rfl,fun h=>(by cases h)⟩
 simp only [c4,decide_false,Bool.false_eq_true,if_false]
 have last:aO (bd (if (r.Proof.length:Int)=0 then some true else bd (cW s r.Proof) fun cJ=>if cJ then some (decide ((xM r.Proof).1<r.jW)) else some false) fun w3=>some w3)
  fun b=>(bd (if (r.Proof.length:Int)=0 then some true else bd (cW s r.Proof) fun cJ=>if cJ then ix r.Proof 0 fun y=>some (decide (y.View<r.jW)) else some false) fun w2=>some w2)=some b∧(b=true→0≤r.By):=by
  simp only [J6]
  by_cases h0:(r.Proof.length:Int)=0
  ·simp only [h0,if_true];exact .mk ⟨rfl,fun _=>by omega⟩
  ·simp only [h0,if_false]
   obtain ⟨b,e,_⟩:=n8 s r.Proof hl
   rw [e]
   simp only [aq]
   cases b with
   |false=>exact .mk ⟨rfl,fun _=>by omega⟩
   |true=>
    simp only [if_true]
    rw [jO (by omega)]
    rw [←AS]
    exact .mk ⟨rfl,fun _=>by omega⟩
 cases hh:r.Has with
 |true=>
  simp only [if_true,Bool.not_true,Bool.false_eq_true,if_false,aq]
  by_cases d1:r.View<0
  ·simp only [d1,if_true,aq];exact .mk ⟨rfl,fun h=>(by cases h)⟩
  by_cases d2:r.jW≤r.View
  ·simp only [d1,d2,if_true,if_false,aq];exact .mk ⟨rfl,fun h=>(by cases h)⟩
  by_cases d3:(6000:Int)<(r.Value.length:Int)
  ·simp only [d1,d2,d3,if_true,if_false,aq,decide_true];exact .mk ⟨rfl,fun h=>(by cases h)⟩
  simp only [d1,d2,d3,if_false,aq,decide_false,Bool.false_eq_true]
  exact last
 |false=>
  simp only [Bool.false_eq_true,if_false,Bool.not_false,if_true,aq]
  by_cases d1:r.View=0
  rotate_left
  ·simp only [d1,decide_false,Bool.not_false,if_true,aq];exact .mk ⟨rfl,fun h=>(by cases h)⟩
  by_cases d2:r.Value=[]
  rotate_left
  ·simp only [d1,d2,decide_true,decide_false,Bool.not_true,Bool.not_false,Bool.false_eq_true,if_true,if_false,aq];exact .mk ⟨rfl,fun h=>(by cases h)⟩
  simp only [d1,d2,decide_true,Bool.not_true,Bool.false_eq_true,if_false,aq]
  exact last
def Y7 (s:ai) (view:Int) (L:List al) (k:Nat):Prop:= ∃hk:k<L.length,gj s L[k]=some true∧L[k].jW=view∧(0<k→(L[k-1]'(by omega)).By<L[k].By)
def J7 (s:ai) (view:Int) (L:List al):Prop:=cD s∧(L.length:Int)=2 *s.F+2 *s.T+1∧ ∀k,k<L.length→Y7 s view L k
theorem GK (s:ai) (view:Int) (L:List al) (hp: ∀r∈L,r.Proof.length<2^32) (hl:L.length<2^32):aO (fc s view L) fun b=>b=true↔J7 s view L:=by
 unfold fc
 rw [lP]
 simp only [aq]
 by_cases hs:cD s
 rotate_left
 ·simp only [hs,decide_false,Bool.not_false,if_true,aq];exact .mk ⟨fun h=>(by cases h),fun h=>absurd h.1 hs⟩
 simp only [hs,decide_true,Bool.not_true,Bool.false_eq_true,if_false,GF hs,aq]
 by_cases hn:(L.length:Int)=2 *s.F+2 *s.T+1
 rotate_left
 ·simp only [hn,decide_false,Bool.not_false,if_true];exact .mk ⟨fun h=>(by cases h),fun h=>absurd h.2.1 hn⟩
 simp only [hn,decide_true,Bool.not_true,Bool.false_eq_true,if_false]
 refine aO.bd (P:=fun r=>(r= .inl ()∧ ∀k,k<L.length→Y7 s view L k)∨(r= .inr false∧ ∃k,k<L.length∧ ¬Y7 s view L k)) (aO.count (fun k=>(match L[k-1]? with|some x=>if k=0 then-1 else x.By|none=> -1,(k:Int))) L.length (fun k=> ∀j,j<k→Y7 s view L j) (by cases L<;>rfl) (fun j hj=>by omega) (fun k hk yT=> ?_) (fun yT=> ?_)) ?_
 ·unfold eJ
  simp only [show ((k:Int)<(L.length:Int)) by omega,if_true,bO hk]
  obtain ⟨b,e,_,hb⟩:=GJ s L[k] (hp _ (List.getElem_mem hk))
  rw [e]
  simp only [aq]
  cases b with
  |false=>simp only [Bool.not_false,if_true,aq];exact .mk (.inr ⟨rfl,k,hk,fun ⟨_,h,_⟩=>by rw [e] at h;cases h⟩)
  |true=>
   simp only [Bool.not_true,Bool.false_eq_true,if_false]
   by_cases c1:L[k].jW=view
   rotate_left
   ·simp only [c1,decide_false,Bool.not_false,if_true,aq];exact .mk (.inr ⟨rfl,k,hk,fun ⟨_,_,h,_⟩=>c1 h⟩)
   simp only [c1,decide_true,Bool.not_true,Bool.false_eq_true,if_false,aq]
   have h0:=hb rfl
   have c8: ∀x:Int,(match L[k-1]? with|some x=>if k=0 then-1 else x.By|none=> -1)=x→(L[k].By≤x↔ ¬(0<k→(L[k-1]'(by omega)).By<L[k].By)):=by
    intro x hx
    rw [List.getElem?_eq_getElem (by omega)] at hx
    simp only at hx
    by_cases Wb:k=0
    ·rw [if_pos Wb] at hx;subst hx
     exact ⟨fun h=>by omega,fun h=>absurd (fun h'=>by omega) h⟩
    ·rw [if_neg Wb] at hx;rw [←hx]
     exact ⟨fun h h'=>by have:=h' (by omega);omega,fun h=>by
      refine Int.not_lt.1 fun h2=>h fun _=>h2⟩
   generalize hx:(match L[k-1]? with|some x=>if k=0 then-1 else x.By|none=> -1)=x at c8
   have c8:=c8 x rfl
   by_cases c2:L[k].By≤x
   ·simp only [c2,decide_true,if_true]
    exact .mk (.inr ⟨rfl,k,hk,fun ⟨_,_,_,h⟩=>c8.1 c2 h⟩)
   ·simp only [c2,decide_false,Bool.false_eq_true,if_false]
    rw [wrap64 (by omega) (by omega)]
    refine .mk ⟨?_,fun j hj=> ?_⟩
    ·rw [show k+1-1=k by omega,List.getElem?_eq_getElem hk]
     simp
    ·by_cases QS:j=k
     ·subst QS
      exact ⟨hk,e,c1,fun h=>by
       refine Int.not_le.1 fun h2=>c2 (c8.2 fun h3=> ?_)
       have:=h3 h;omega⟩
     ·exact yT j (by omega)
 ·unfold eJ
  simp only [show¬((L.length:Int)<(L.length:Int)) by omega,if_false]
  exact .mk (.inl ⟨rfl,yT⟩)
 ·rintro r (⟨rfl,h⟩|⟨rfl,k,hk,h⟩)
  ·exact .mk ⟨fun _=>⟨hs,hn,h⟩,fun _=>rfl⟩
  ·exact .mk ⟨fun h=>(by cases h),fun hr=>absurd (hr.2.2 k hk) h⟩
theorem GL (s:ai) (view:Int) (L:List al) (hp: ∀r∈L,r.Proof.length<2^32) (hl:L.length<2^32):aO (oT (ue s) view L) fun b=>b=true↔J7 s view L:=by
 unfold oT
 rw [kY]
 simp only [aq]
 by_cases hs:cD s
 rotate_left
 ·simp only [hs,decide_false,Bool.not_false,if_true,aq];exact .mk ⟨fun h=>(by cases h),fun h=>absurd h.1 hs⟩
 simp only [hs,decide_true,Bool.not_true,Bool.false_eq_true,if_false,IG hs,aq]
 by_cases hn:(L.length:Int)=2 *s.F+2 *s.T+1
 rotate_left
 ·simp only [hn,decide_false,Bool.not_false,if_true];exact .mk ⟨fun h=>(by cases h),fun h=>absurd h.2.1 hn⟩
 simp only [hn,decide_true,Bool.not_true,Bool.false_eq_true,if_false]
 refine aO.bd (rB L.length (Y7 s view L) false (fun k hk _=> ?_) ?_) ?_
 ·unfold nH
  simp only [show ((k:Int)<(L.length:Int)) by omega,if_true,bO hk]
  obtain ⟨b,e',e,hb⟩:=GJ s L[k] (hp _ (List.getElem_mem hk))
  rw [e]
  simp only [aq]
  rw [wrap64 (x:=(k:Int)+1) (by omega) (by omega),show (k:Int)+1=((k+1:Nat):Int) by omega]
  cases b with
  |false=>simp only [Bool.not_false,if_true,aq];exact ⟨fun ⟨_,h,_⟩=>(by rw [e'] at h;cases h),fun _=>trivial⟩
  |true=>
   simp only [Bool.not_true,Bool.false_eq_true,if_false]
   by_cases c1:L[k].jW=view
   rotate_left
   ·simp only [c1,decide_false,Bool.not_false,if_true,aq];exact ⟨fun ⟨_,_,h,_⟩=>absurd h c1,fun _=>trivial⟩
   simp only [c1,decide_true,Bool.not_true,Bool.false_eq_true,if_false,aq]
   by_cases Wb:k=0
   ·subst Wb
    simp only [Int.natCast_zero,Int.lt_irrefl,if_false,aq,Bool.false_eq_true]
    exact ⟨fun _=>trivial,fun h=>absurd ⟨hk,e',c1,fun h=>by omega⟩ h⟩
   ·simp only [show ((0:Int)<(k:Int)) by omega,if_true]
    rw [wrap64 (by omega) (by omega),show (k:Int)-1=((k-1:Nat):Int) by omega,bO (by omega)]
    simp only [aq]
    by_cases c2:L[k].By≤L[k-1].By
    ·simp only [c2,decide_true,if_true]
     exact ⟨fun ⟨_,_,_,h⟩=>by have:=h (by omega);omega,fun _=>trivial⟩
    ·simp only [c2,decide_false,Bool.false_eq_true,if_false]
     exact ⟨fun _=>trivial,fun h=>absurd ⟨hk,e',c1,fun _=>by omega⟩ h⟩
 ·unfold nH
  simp only [show¬((L.length:Int)<(L.length:Int)) by omega,if_false]
 ·rintro r (⟨rfl,h⟩|⟨rfl,k,hk,h⟩)
  ·exact .mk ⟨fun _=>⟨hs,hn,h⟩,fun _=>rfl⟩
  ·exact .mk ⟨fun h=>(by cases h),fun hr=>absurd (hr.2.2 k hk) h⟩
end Dn.S
