import Derived.Test.YtjblhgpbkfmkoaaDnPProof
import Derived.Test.YtjblhgpbkfmkoaaDnYV
/-
  Acceptors: what may be, and what is alike. Conditions: none.
-/
open Go Dn
set_option linter.unusedVariables false
set_option linter.unusedSimpArgs false
namespace Dn.S
def ui (a:ae):bT:=⟨ue a.S,a.Me,a.View,a.Has,a.At,a.Value,a.Proof,⟨a.ba.L⟩⟩
theorem LF (a:ae):sf a=some (ui a):=rfl
theorem Px (s:ai):oQ s=some (ue s):=rfl
theorem Py (l:List aa):aO (oP l) fun b=>b=true→l.length≤40∧ ∀e∈l,e.Value.length≤6100:=by
 unfold oP
 refine aO.bd (P:=fun r=>r= .inr false∨(r= .inl ()∧l.length≤40∧ ∀e∈l,e.Value.length≤6100)) ?_ ?_
 ·refine aO.count (fun k=>(k:Int)) l.length (fun k=>k≤40∧ ∀j (hj:j<l.length),j<k→l[j].Value.length≤6100) rfl ⟨by omega,fun j _ h=>by omega⟩ (fun k hk hp=> ?_) (fun hp=> ?_)
  ·unfold nC
   simp only [show ((k:Int)<(l.length:Int)) by omega,if_true]
   by_cases X5:k=40
   ·simp only [show ((k:Int)=40) by omega,if_true,aq]
    exact .mk (.inl rfl)
   ·simp only [show¬((k:Int)=40) by omega,if_false,bO hk,aq]
    by_cases hv:(6100:Int)<(l[k].Value.length:Int)
    ·simp only [hv,decide_true,if_true];exact .mk (.inl rfl)
    ·simp only [hv,decide_false,Bool.false_eq_true,if_false]
     rw [wrap64 (by omega) (by omega)]
     refine .mk ⟨by omega,by omega,fun j hj QS=> ?_⟩
     by_cases Pz:j=k
     ·subst Pz;omega
     ·exact hp.2 j hj (by omega)
  ·unfold nC
   simp only [show¬((l.length:Int)<(l.length:Int)) by omega,if_false]
   refine .mk (.inr ⟨rfl,hp.1,fun e he=> ?_⟩)
   obtain ⟨k,hk,rfl⟩:=List.mem_iff_getElem.1 he
   exact hp.2 k hk hk
 ·rintro r (rfl|⟨rfl,h⟩)
  ·exact .mk (by simp)
  ·exact .mk (fun _=>h)
def yo (s:ai) (me:Int):ae×Int:=if cD s∧0≤me∧me<ur s then (⟨s,me,0,false,0,[],[],⟨[]⟩⟩,0) else (⟨⟨0,0⟩,0,0,false,0,[],[],⟨[]⟩⟩,1)
theorem Dc (s:ai) (me:Int):dA s me=some (yo s me):=by
 unfold dA yo
 simp only [lP,aq]
 by_cases hs:cD s
 ·simp only [hs,decide_true,Bool.not_true,Bool.false_eq_true,if_false,true_and]
  by_cases h0:me<0
  ·simp only [h0,if_true,aq];rw [if_neg (by omega)]
  ·simp only [h0,if_false,vJ hs,aq]
   by_cases h1:3 *s.F+2 *s.T+1≤me
   ·simp only [h1,decide_true,if_true];rw [if_neg (by unfold ur;omega)]
   ·simp only [h1,decide_false,Bool.false_eq_true,if_false];rw [if_pos (by unfold ur;omega)]
 ·simp [hs]
theorem LG (s:ai) (me:Int):se (ue s) me=some (ui (yo s me).1,(yo s me).2):=by
 unfold se yo
 simp only [kY,aq]
 by_cases hs:cD s
 ·simp only [hs,decide_true,Bool.not_true,Bool.false_eq_true,if_false,true_and]
  by_cases h0:me<0
  ·simp only [h0,if_true,aq];rw [if_neg (by omega)];rfl
  ·simp only [h0,if_false,vL hs,aq]
   by_cases h1:3 *s.F+2 *s.T+1≤me
   ·simp only [h1,decide_true,if_true];rw [if_neg (by unfold ur;omega)];rfl
   ·simp only [h1,decide_false,Bool.false_eq_true,if_false];rw [if_pos (by unfold ur;omega)];rfl
 ·simp [hs,ui,ue]
structure wX (a:ae):Prop where
 v0:0≤a.View
 v1:a.View≤100000
 has:a.Has=true→0≤a.At∧a.At≤a.View∧a.Value.length≤6000
 jP:a.Has=false→a.At=0∧a.Value=[]
 proof:a.Proof=[]∨(rD a.S a.Proof∧ ∀e∈a.Proof,e.View≤a.View)
structure et (a:ae):Prop where
 sz:cD a.S
 VO:0≤a.Me
 Ih:a.Me<ur a.S
 dR:wX a
 ji:n7 a.ba.L
 all: ∀e∈a.ba.L,e.By<ur a.S∧e.View=a.View
theorem AR {s:ai} {p:List aa} {v:Int} (h:rD s p) (h0:0<p.length):(∀e∈p,e.View≤v)↔p[0].View≤v:=by
 constructor
 ·intro ha;exact ha _ (List.getElem_mem h0)
 ·intro ha e he
  have:=(h.one e he _ (List.getElem_mem h0)).1
  omega
theorem PA (a:ae) (hp:a.Proof.length<2^32):aO (cq a) fun b=>b=true↔wX a:=by
 unfold cq
 by_cases c1:a.View<0
 ·simp only [c1,if_true,aq];exact .mk ⟨fun h=>(by cases h),fun h=>by have:=h.v0;omega⟩
 by_cases c2:(100000:Int)<a.View
 ·simp only [c1,c2,if_true,if_false,aq,decide_true];exact .mk ⟨fun h=>(by cases h),fun h=>by have:=h.v1;omega⟩
 simp only [c1,c2,if_false,aq,decide_false,Bool.false_eq_true]
 have fin:(a.Has=true→0≤a.At∧a.At≤a.View∧a.Value.length≤6000)→(a.Has=false→a.At=0∧a.Value=[])→
  aO (bd (if (a.Proof.length:Int)=0 then some true else bd (cW a.S a.Proof) fun rA=>if rA then ix a.Proof 0 fun y=>some (decide (y.View≤a.View)) else some false) fun w3=>some w3) fun b=>b=true↔wX a:=by
  intro g1 g2
  simp only [J6]
  by_cases hl:a.Proof.length=0
  ·simp only [hl,Int.natCast_zero,if_true]
   exact .mk ⟨fun _=>⟨by omega,by omega,g1,g2,.inl (List.eq_nil_of_length_eq_zero hl)⟩,fun _=>rfl⟩
  ·obtain ⟨r,e,hr⟩:=n8 a.S a.Proof hp
   simp only [show¬((a.Proof.length:Int)=0) by omega,if_false,e,aq]
   cases r with
   |false=>
    simp only [Bool.false_eq_true,if_false]
    refine .mk ⟨fun h=>(by cases h),fun h=> ?_⟩
    rcases h.proof with h1|⟨h1,_⟩
    ·rw [h1] at hl;exact absurd rfl hl
    ·have:=hr.2 h1;cases this
   |true=>
    have P0:=hr.1 rfl
    have h0:0<a.Proof.length:=by omega
    simp only [if_true,jO h0]
    refine .mk ?_
    rw [decide_eq_true_iff,←AR P0 h0]
    exact ⟨fun h=>⟨by omega,by omega,g1,g2,.inr ⟨P0,h⟩⟩,fun h=>by
     rcases h.proof with h1|⟨_,h1⟩
     ·rw [h1] at hl;exact absurd rfl hl
     ·exact h1⟩
 cases hh:a.Has with
 |true=>
  simp only [if_true,Bool.not_true,Bool.false_eq_true,if_false,aq]
  by_cases c3:a.At<0
  ·simp only [c3,if_true,aq];exact .mk ⟨fun h=>(by cases h),fun h=>by have:=(h.has hh).1;omega⟩
  by_cases c4:a.View<a.At
  ·simp only [c3,c4,if_true,if_false,aq];exact .mk ⟨fun h=>(by cases h),fun h=>by have:=(h.has hh).2.1;omega⟩
  by_cases c5:(6000:Int)<(a.Value.length:Int)
  ·simp only [c3,c4,c5,if_true,if_false,aq,decide_true];exact .mk ⟨fun h=>(by cases h),fun h=>by have:=(h.has hh).2.2;omega⟩
  simp only [c3,c4,c5,if_false,aq,decide_false,Bool.false_eq_true]
  exact fin (fun _=>by omega) (fun h=>by rw [hh] at h;cases h)
 |false=>
  simp only [Bool.false_eq_true,if_false,aq,Bool.not_false,if_true]
  by_cases c3:a.At=0
  rotate_left
  ·simp only [c3,decide_false,Bool.not_false,if_true,aq];exact .mk ⟨fun h=>(by cases h),fun h=>absurd (h.jP hh).1 c3⟩
  by_cases c4:a.Value=[]
  rotate_left
  ·simp only [c3,c4,decide_true,decide_false,Bool.not_true,Bool.not_false,Bool.false_eq_true,if_true,if_false,aq];exact .mk ⟨fun h=>(by cases h),fun h=>absurd (h.jP hh).2 c4⟩
  simp only [c3,c4,decide_true,Bool.not_true,Bool.false_eq_true,if_false,aq]
  exact fin (fun h=>by rw [hh] at h;cases h) (fun _=>⟨c3,c4⟩)
theorem GD (a:ae) (hp:a.Proof.length<2^32) (hv:a.ba.L.length<2^32):aO (oR (ui a)) fun b=>b=true↔et a:=by
 unfold oR
 have e0:se (ui a).S (ui a).Me=some (ui (yo a.S a.Me).1,(yo a.S a.Me).2):=LG a.S a.Me
 rw [e0]
 simp only [aq]
 unfold yo
 by_cases hn:cD a.S∧0≤a.Me∧a.Me<ur a.S
 rotate_left
 ·rw [if_neg hn]
  simp only [show¬((1:Int)=0) by decide,decide_false,Bool.not_false,if_true,aq]
  exact .mk ⟨fun h=>(by cases h),fun h=>absurd ⟨h.sz,h.VO,h.Ih⟩ hn⟩
 rw [if_pos hn]
 obtain ⟨r2,e2,h2⟩:=Gu a.ba.L (by omega)
 have e2:lU (ui a).ba=some r2:=e2
 simp only [decide_true,Bool.not_true,Bool.false_eq_true,if_false,aq,e2]
 show aO (bd (if a.View<0 then some true else if (100000:Int)<a.View then some true else some (!r2)) _) _
 by_cases c1:a.View<0
 ·simp only [c1,if_true,aq];exact .mk ⟨fun h=>(by cases h),fun h=>by have:=h.dR.v0;omega⟩
 by_cases c2:(100000:Int)<a.View
 ·simp only [c1,c2,if_true,if_false,aq];exact .mk ⟨fun h=>(by cases h),fun h=>by have:=h.dR.v1;omega⟩
 simp only [c1,c2,if_false,aq]
 cases r2 with
 |false=>simp only [Bool.not_false,if_true];exact .mk ⟨fun h=>(by cases h),fun h=>by have:=h2.2 h.ji;cases this⟩
 |true=>
 simp only [Bool.not_true,Bool.false_eq_true,if_false]
 have fin:(a.Has=true→0≤a.At∧a.At≤a.View∧a.Value.length≤6000)→(a.Has=false→a.At=0∧a.Value=[])→
  aO (bd (if (0:Int)<((ui a).Proof.length:Int) then bd (gO (ui a).S (ui a).Proof) fun cJ=>if !cJ then some true else ix (ui a).Proof 0 fun y=>some (decide ((ui a).View<y.View)) else some false) fun w2=>if w2 then some false else bd (Loop (jf (ui a)) 0) fun w3=>match w3 with| .inl p1=>some true| .inr p2=>some p2) fun b=>b=true↔et a:=by
  intro g1 g2
  have last:(a.Proof=[]∨(rD a.S a.Proof∧ ∀e∈a.Proof,e.View≤a.View))→aO (bd (Loop (jf (ui a)) 0) fun w3=>match w3 with| .inl p1=>some true| .inr p2=>some p2) fun b=>b=true↔et a:=by
   intro g3
   refine aO.bd (rB a.ba.L.length (fun k=> ∃hk:k<a.ba.L.length,a.ba.L[k].By<ur a.S∧a.ba.L[k].View=a.View) false (fun k hk _=> ?_) ?_) ?_
   ·unfold jf
    have en:ta (ui a).S=some (3 *a.S.F+2 *a.S.T+1):=vL hn.1
    have el:(ui a).ba.L=a.ba.L:=rfl
    have ew:(ui a).View=a.View:=rfl
    simp only [el,ew,show ((k:Int)<(a.ba.L.length:Int)) by omega,if_true,bO hk,en,aq]
    rw [wrap64 (x:=(k:Int)+1) (by omega) (by omega),show (k:Int)+1=((k+1:Nat):Int) by omega]
    by_cases c1:3 *a.S.F+2 *a.S.T+1≤a.ba.L[k].By
    ·rw [if_pos c1]
     simp only [aq,if_true]
     exact ⟨fun ⟨_,h,_⟩=>by unfold ur at h;omega,fun _=>trivial⟩
    ·rw [if_neg c1]
     simp only [aq]
     by_cases c2:a.ba.L[k].View=a.View
     ·rw [decide_eq_true c2]
      simp only [Bool.not_true,Bool.false_eq_true,if_false]
      exact ⟨fun _=>trivial,fun h=>absurd ⟨hk,by unfold ur;omega,c2⟩ h⟩
     ·rw [decide_eq_false c2]
      simp only [Bool.not_false,if_true]
      exact ⟨fun ⟨_,_,h⟩=>absurd h c2,fun _=>trivial⟩
   ·unfold jf
    have el:(ui a).ba.L=a.ba.L:=rfl
    simp only [el,show¬((a.ba.L.length:Int)<(a.ba.L.length:Int)) by omega,if_false]
   ·rintro r (⟨rfl,h⟩|⟨rfl,k,hk,h⟩)
    ·refine .mk ⟨fun _=>⟨hn.1,hn.2.1,hn.2.2,⟨by omega,by omega,g1,g2,g3⟩,h2.1 rfl,fun e he=> ?_⟩,fun _=>rfl⟩
     obtain ⟨k,hk,rfl⟩:=List.mem_iff_getElem.1 he
     exact (h k hk).2
    ·exact .mk ⟨fun h=>(by cases h),fun hr=>absurd ⟨hk,hr.all _ (List.getElem_mem hk)⟩ h⟩
  show aO (bd (if (0:Int)<(a.Proof.length:Int) then bd (gO (ue a.S) a.Proof) fun cJ=>if !cJ then some true else ix a.Proof 0 fun y=>some (decide (a.View<y.View)) else some false) _) _
  by_cases hl:a.Proof.length=0
  ·simp only [hl,Int.natCast_zero,Int.lt_irrefl,if_false,aq,Bool.false_eq_true]
   exact last (.inl (List.eq_nil_of_length_eq_zero hl))
  ·obtain ⟨r,e,hr⟩:=xL a.S a.Proof hp
   have h0:0<a.Proof.length:=by omega
   simp only [show ((0:Int)<(a.Proof.length:Int)) by omega,if_true,e,aq]
   cases r with
   |false=>
    simp only [Bool.not_false,if_true,aq]
    refine .mk ⟨fun h=>(by cases h),fun h=> ?_⟩
    rcases h.dR.proof with h1|⟨h1,_⟩
    ·rw [h1] at hl;exact absurd rfl hl
    ·have:=hr.2 h1;cases this
   |true=>
    have P0:=hr.1 rfl
    simp only [Bool.not_true,Bool.false_eq_true,if_false,jO h0,aq]
    by_cases hw:a.View<a.Proof[0].View
    ·simp only [hw,decide_true,if_true]
     refine .mk ⟨fun h=>(by cases h),fun h=> ?_⟩
     rcases h.dR.proof with h1|⟨_,h1⟩
     ·rw [h1] at hl;exact absurd rfl hl
     ·have:=(AR P0 h0).1 h1;omega
    ·simp only [hw,decide_false,Bool.false_eq_true,if_false]
     exact last (.inr ⟨P0,(AR P0 h0).2 (by omega)⟩)
 show aO (bd (if a.Has then if a.At<0 then some true else if a.View<a.At then some true else if (6000:Int)<(a.Value.length:Int) then some true else if !a.Has then (if !decide (a.At=0) then some true else some (!decide (a.Value=([]:List UInt8)))) else some false else if !a.Has then (if !decide (a.At=0) then some true else some (!decide (a.Value=([]:List UInt8)))) else some false) _) _
 cases hh:a.Has with
 |true=>
  simp only [if_true,Bool.not_true,Bool.false_eq_true,if_false,aq]
  by_cases c3:a.At<0
  ·simp only [c3,if_true,aq];exact .mk ⟨fun h=>(by cases h),fun h=>by have:=(h.dR.has hh).1;omega⟩
  by_cases c4:a.View<a.At
  ·simp only [c3,c4,if_true,if_false,aq];exact .mk ⟨fun h=>(by cases h),fun h=>by have:=(h.dR.has hh).2.1;omega⟩
  by_cases c5:(6000:Int)<(a.Value.length:Int)
  ·simp only [c3,c4,c5,if_true,if_false,aq];exact .mk ⟨fun h=>(by cases h),fun h=>by have:=(h.dR.has hh).2.2;omega⟩
  simp only [c3,c4,c5,if_false,aq,Bool.false_eq_true]
  exact fin (fun _=>by omega) (fun h=>by rw [hh] at h;cases h)
 |false=>
  simp only [Bool.false_eq_true,if_false,Bool.not_false,if_true]
  by_cases c3:a.At=0
  rotate_left
  ·simp only [c3,decide_false,Bool.not_false,if_true,aq];exact .mk ⟨fun h=>(by cases h),fun h=>absurd (h.dR.jP hh).1 c3⟩
  by_cases c4:a.Value=[]
  rotate_left
  ·simp only [c3,c4,decide_true,decide_false,Bool.not_true,Bool.not_false,Bool.false_eq_true,if_true,if_false,aq];exact .mk ⟨fun h=>(by cases h),fun h=>absurd (h.dR.jP hh).2 c4⟩
  simp only [c3,c4,decide_true,Bool.not_true,Bool.false_eq_true,if_false,aq]
  exact fin (fun h=>by rw [hh] at h;cases h) (fun _=>⟨c3,c4⟩)
end Dn.S
