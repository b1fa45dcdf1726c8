import Derived.Test.YtjblhgpbkfmkoaaDnPProof
import Derived.Test.YtjblhgpbkfmkoaaDnYV
/-
  Acceptors: what may be, and what is alike. Conditions: none.
-/
open Go Dn
set_option linter.unusedVariables false
set_option linter.unusedSimpArgs false
namespace Dn.S
def mM (a:af):aK:=⟨Ea a.S,a.Me,a.View,a.Has,a.At,a.Value,a.Proof,⟨a.bS.L⟩⟩
theorem Ir (a:af):gJ a=some (mM a):=rfl
theorem LY (s:aj):ni s=some (Ea s):=rfl
theorem DO (l:List ab):bE (kn l) fun b=>b=true→l.length≤40∧ ∀e∈l,e.Value.length≤6100:=by
 unfold kn
 refine bE.bd (P:=fun r=>r= .inr false∨(r= .inl ()∧l.length≤40∧ ∀e∈l,e.Value.length≤6100)) ?_ ?_
 ·refine bE.count (fun k=>(k:Int)) l.length (fun k=>k≤40∧ ∀j (hj:j<l.length),j<k→l[j].Value.length≤6100) rfl ⟨by omega,fun j _ h=>by omega⟩ (fun k hk hp=> ?_) (fun hp=> ?_)
  ·unfold lY
   simp only [show ((k:Int)<(l.length:Int)) by omega,if_true]
   by_cases Ya:k=40
   ·simp only [show ((k:Int)=40) by omega,if_true,aA]
    exact .mk (.inl rfl)
   ·simp only [show¬((k:Int)=40) by omega,if_false,cG hk,aA]
    by_cases hv:(6100:Int)<(l[k].Value.length:Int)
    ·simp only [hv,decide_true,if_true];exact .mk (.inl rfl)
    ·simp only [hv,decide_false,Bool.false_eq_true,if_false]
     rw [wrap64 (by omega) (by omega)]
     refine .mk ⟨by omega,by omega,fun j hj S7=> ?_⟩
     by_cases W7:j=k
     ·subst W7;omega
     ·exact hp.2 j hj (by omega)
  ·unfold lY
   simp only [show¬((l.length:Int)<(l.length:Int)) by omega,if_false]
   refine .mk (.inr ⟨rfl,hp.1,fun e he=> ?_⟩)
   obtain ⟨k,hk,rfl⟩:=List.mem_iff_getElem.1 he
   exact hp.2 k hk hk
 ·rintro r (rfl|⟨rfl,h⟩)
  ·exact .mk (by simp)
  ·exact .mk (fun _=>h)
theorem Q2 (a:af):bE (sY a) fun b=>b=true→a.Value.length≤6100∧a.Proof.length≤40∧a.bS.L.length≤40:=by
 unfold sY
 obtain ⟨b1,e1,h1⟩:=DO a.Proof
 obtain ⟨b2,e2,h2⟩:=DO a.bS.L
 simp only [e1,e2,aA,G4]
 by_cases hv:(a.Value.length:Int)≤6100
 ·simp only [hv,if_true]
  cases b1 with
  |false=>exact .mk (by simp)
  |true=>simp only [if_true];exact .mk fun h=>⟨by omega,(h1 rfl).1,(h2 h).1⟩
 ·simp only [hv,if_false];exact .mk (by simp)
def vN (s:aj) (me:Int):af×Int:=if eu s∧0≤me∧me<BT s then (⟨s,me,0,false,0,[],[],⟨[]⟩⟩,0) else (⟨⟨0,0⟩,0,0,false,0,[],[],⟨[]⟩⟩,1)
theorem Is (s:aj) (me:Int):dy s me=some (vN s me):=by
 unfold dy vN
 simp only [tA,aA]
 by_cases hs:eu s
 ·simp only [hs,decide_true,Bool.not_true,Bool.false_eq_true,if_false,true_and]
  by_cases h0:me<0
  ·simp only [h0,if_true,aA];rw [if_neg (by omega)]
  ·simp only [h0,if_false,DI hs,aA]
   by_cases h1:3 *s.F+2 *s.T+1≤me
   ·simp only [h1,decide_true,if_true];rw [if_neg (by unfold BT;omega)]
   ·simp only [h1,decide_false,Bool.false_eq_true,if_false];rw [if_pos (by unfold BT;omega)]
 ·simp [hs]
theorem AF (s:aj) (me:Int):oh (Ea s) me=some (mM (vN s me).1,(vN s me).2):=by
 unfold oh vN
 simp only [p8,aA]
 by_cases hs:eu s
 ·simp only [hs,decide_true,Bool.not_true,Bool.false_eq_true,if_false,true_and]
  by_cases h0:me<0
  ·simp only [h0,if_true,aA];rw [if_neg (by omega)];rfl
  ·simp only [h0,if_false,BU hs,aA]
   by_cases h1:3 *s.F+2 *s.T+1≤me
   ·simp only [h1,decide_true,if_true];rw [if_neg (by unfold BT;omega)];rfl
   ·simp only [h1,decide_false,Bool.false_eq_true,if_false];rw [if_pos (by unfold BT;omega)];rfl
 ·simp [hs,mM,Ea]
theorem yk (a b:aK) (h1:a.Proof.length<2^60) (h2:a.bS.L.length<2^60):kW a b=some (decide (a=b)):=by
 obtain ⟨⟨s1,s2⟩,m,v,hs,at_,val,p,⟨vo⟩⟩:=a
 obtain ⟨⟨t1,t2⟩,m',v',pg,at',W8,p',⟨vo'⟩⟩:=b
 unfold kW
 simp only [yd _ _ h1,yd _ _ h2,aA,G4]
 by_cases c1:s1=t1<;>by_cases c2:s2=t2<;>by_cases c3:m=m'<;>by_cases c4:v=v'<;>by_cases c5:hs=pg<;>by_cases c6:at_=at'<;>by_cases c7:val=W8<;>by_cases c8:p=p'<;>simp [c1,c2,c3,c4,c5,c6,c7,c8]
structure sd (a:af):Prop where
 v0:0≤a.View
 v1:a.View≤100000
 has:a.Has=true→0≤a.At∧a.At≤a.View∧a.Value.length≤6000
 yl:a.Has=false→a.At=0∧a.Value=[]
 proof:a.Proof=[]∨(uB a.S a.Proof∧ ∀e∈a.Proof,e.View≤a.View)
structure qe (a:af):Prop where
 sz:eu a.S
 Yz:0≤a.Me
 Mp:a.Me<BT a.S
 oV:sd a
 ye:uy a.bS.L
 all: ∀e∈a.bS.L,e.By<BT a.S∧e.View=a.View
theorem ym {s:aj} {p:List ab} {v:Int} (h:uB s p) (h0:0<p.length):(∀e∈p,e.View≤v)↔p[0].View≤v:=by
 constructor
 ·intro ha;exact ha _ (List.getElem_mem h0)
 ·intro ha e he
  have:=(h.one e he _ (List.getElem_mem h0)).1
  omega
theorem LZ (a:af) (hp:a.Proof.length<2^32):bE (b5 a) fun b=>b=true↔sd a:=by
 unfold b5
 by_cases c1:a.View<0
 ·simp only [c1,if_true,aA];exact .mk ⟨fun h=>(by cases h),fun h=>by have:=h.v0;omega⟩
 by_cases c2:(100000:Int)<a.View
 ·simp only [c1,c2,if_true,if_false,aA,decide_true];exact .mk ⟨fun h=>(by cases h),fun h=>by have:=h.v1;omega⟩
 simp only [c1,c2,if_false,aA,decide_false,Bool.false_eq_true]
 have fin:(a.Has=true→0≤a.At∧a.At≤a.View∧a.Value.length≤6000)→(a.Has=false→a.At=0∧a.Value=[])→
  bE (bd (if (a.Proof.length:Int)=0 then some true else bd (dz a.S a.Proof) fun rA=>if rA then ix a.Proof 0 fun y=>some (decide (y.View≤a.View)) else some false) fun w3=>some w3) fun b=>b=true↔sd a:=by
  intro g1 g2
  simp only [G4]
  by_cases hl:a.Proof.length=0
  ·simp only [hl,Int.natCast_zero,if_true]
   exact .mk ⟨fun _=>⟨by omega,by omega,g1,g2,.inl (List.eq_nil_of_length_eq_zero hl)⟩,fun _=>rfl⟩
  ·obtain ⟨r,e,hr⟩:=zn a.S a.Proof hp
   simp only [show¬((a.Proof.length:Int)=0) by omega,if_false,e,aA]
   cases r with
   |false=>
    simp only [Bool.false_eq_true,if_false]
    refine .mk ⟨fun h=>(by cases h),fun h=> ?_⟩
    rcases h.proof with h1|⟨h1,_⟩
    ·rw [h1] at hl;exact absurd rfl hl
    ·have:=hr.2 h1;cases this
   |true=>
    have Ml:=hr.1 rfl
    have h0:0<a.Proof.length:=by omega
    simp only [if_true,gn h0]
    refine .mk ?_
    rw [decide_eq_true_iff,←ym Ml h0]
    exact ⟨fun h=>⟨by omega,by omega,g1,g2,.inr ⟨Ml,h⟩⟩,fun h=>by
     rcases h.proof with h1|⟨_,h1⟩
     ·rw [h1] at hl;exact absurd rfl hl
     ·exact h1⟩
 cases hh:a.Has with
 |true=>
  simp only [if_true,Bool.not_true,Bool.false_eq_true,if_false,aA]
  by_cases c3:a.At<0
  ·simp only [c3,if_true,aA];exact .mk ⟨fun h=>(by cases h),fun h=>by have:=(h.has hh).1;omega⟩
  by_cases c4:a.View<a.At
  ·simp only [c3,c4,if_true,if_false,aA];exact .mk ⟨fun h=>(by cases h),fun h=>by have:=(h.has hh).2.1;omega⟩
  by_cases c5:(6000:Int)<(a.Value.length:Int)
  ·simp only [c3,c4,c5,if_true,if_false,aA,decide_true];exact .mk ⟨fun h=>(by cases h),fun h=>by have:=(h.has hh).2.2;omega⟩
  simp only [c3,c4,c5,if_false,aA,decide_false,Bool.false_eq_true]
  exact fin (fun _=>by omega) (fun h=>by rw [hh] at h;cases h)
 |false=>
  simp only [Bool.false_eq_true,if_false,aA,Bool.not_false,if_true]
  by_cases c3:a.At=0
  rotate_left
  ·simp only [c3,decide_false,Bool.not_false,if_true,aA];exact .mk ⟨fun h=>(by cases h),fun h=>absurd (h.yl hh).1 c3⟩
  by_cases c4:a.Value=[]
  rotate_left
  ·simp only [c3,c4,decide_true,decide_false,Bool.not_true,Bool.not_false,Bool.false_eq_true,if_true,if_false,aA];exact .mk ⟨fun h=>(by cases h),fun h=>absurd (h.yl hh).2 c4⟩
  simp only [c3,c4,decide_true,Bool.not_true,Bool.false_eq_true,if_false,aA]
  exact fin (fun h=>by rw [hh] at h;cases h) (fun _=>⟨c3,c4⟩)
theorem vn (a:af) (hp:a.Proof.length<2^32) (hv:a.bS.L.length<2^32):bE (je (mM a)) fun b=>b=true↔qe a:=by
 unfold je
 have e0:oh (mM a).S (mM a).Me=some (mM (vN a.S a.Me).1,(vN a.S a.Me).2):=AF a.S a.Me
 rw [e0]
 simp only [aA]
 unfold vN
 by_cases hn:eu a.S∧0≤a.Me∧a.Me<BT a.S
 rotate_left
 ·rw [if_neg hn]
  simp only [show¬((1:Int)=0) by decide,decide_false,Bool.not_false,if_true,aA]
  exact .mk ⟨fun h=>(by cases h),fun h=>absurd ⟨h.sz,h.Yz,h.Mp⟩ hn⟩
 rw [if_pos hn]
 obtain ⟨r2,e2,h2⟩:=DH a.bS.L (by omega)
 have e2:kp (mM a).bS=some r2:=e2
 simp only [decide_true,Bool.not_true,Bool.false_eq_true,if_false,aA,e2]
 show bE (bd (if a.View<0 then some true else if (100000:Int)<a.View then some true else some (!r2)) _) _
 by_cases c1:a.View<0
 ·simp only [c1,if_true,aA];exact .mk ⟨fun h=>(by cases h),fun h=>by have:=h.oV.v0;omega⟩
 by_cases c2:(100000:Int)<a.View
 ·simp only [c1,c2,if_true,if_false,aA];exact .mk ⟨fun h=>(by cases h),fun h=>by have:=h.oV.v1;omega⟩
 simp only [c1,c2,if_false,aA]
 cases r2 with
 |false=>simp only [Bool.not_false,if_true];exact .mk ⟨fun h=>(by cases h),fun h=>by have:=h2.2 h.ye;cases this⟩
 |true=>
 simp only [Bool.not_true,Bool.false_eq_true,if_false]
 have fin:(a.Has=true→0≤a.At∧a.At≤a.View∧a.Value.length≤6000)→(a.Has=false→a.At=0∧a.Value=[])→
  bE (bd (if (0:Int)<((mM a).Proof.length:Int) then bd (jd (mM a).S (mM a).Proof) fun cL=>if !cL then some true else ix (mM a).Proof 0 fun y=>some (decide ((mM a).View<y.View)) else some false) fun w2=>if w2 then some false else bd (Loop (gK (mM a)) 0) fun w3=>match w3 with| .inl p1=>some true| .inr p2=>some p2) fun b=>b=true↔qe a:=by
  intro g1 g2
  have last:(a.Proof=[]∨(uB a.S a.Proof∧ ∀e∈a.Proof,e.View≤a.View))→bE (bd (Loop (gK (mM a)) 0) fun w3=>match w3 with| .inl p1=>some true| .inr p2=>some p2) fun b=>b=true↔qe a:=by
   intro g3
   refine bE.bd (p0 a.bS.L.length (fun k=> ∃hk:k<a.bS.L.length,a.bS.L[k].By<BT a.S∧a.bS.L[k].View=a.View) false (fun k hk _=> ?_) ?_) ?_
   ·unfold gK
    have en:vd (mM a).S=some (3 *a.S.F+2 *a.S.T+1):=BU hn.1
    have el:(mM a).bS.L=a.bS.L:=rfl
    have ew:(mM a).View=a.View:=rfl
    simp only [el,ew,show ((k:Int)<(a.bS.L.length:Int)) by omega,if_true,cG hk,en,aA]
    rw [wrap64 (x:=(k:Int)+1) (by omega) (by omega),show (k:Int)+1=((k+1:Nat):Int) by omega]
    by_cases c1:3 *a.S.F+2 *a.S.T+1≤a.bS.L[k].By
    ·rw [if_pos c1]
     simp only [aA,if_true]
     exact ⟨fun ⟨_,h,_⟩=>by unfold BT at h;omega,fun _=>trivial⟩
    ·rw [if_neg c1]
     simp only [aA]
     by_cases c2:a.bS.L[k].View=a.View
     ·rw [decide_eq_true c2]
      simp only [Bool.not_true,Bool.false_eq_true,if_false]
      exact ⟨fun _=>trivial,fun h=>absurd ⟨hk,by unfold BT;omega,c2⟩ h⟩
     ·rw [decide_eq_false c2]
      simp only [Bool.not_false,if_true]
      exact ⟨fun ⟨_,_,h⟩=>absurd h c2,fun _=>trivial⟩
   ·unfold gK
    have el:(mM a).bS.L=a.bS.L:=rfl
    simp only [el,show¬((a.bS.L.length:Int)<(a.bS.L.length:Int)) by omega,if_false]
   ·rintro r (⟨rfl,h⟩|⟨rfl,k,hk,h⟩)
    ·refine .mk ⟨fun _=>⟨hn.1,hn.2.1,hn.2.2,⟨by omega,by omega,g1,g2,g3⟩,h2.1 rfl,fun e he=> ?_⟩,fun _=>rfl⟩
     obtain ⟨k,hk,rfl⟩:=List.mem_iff_getElem.1 he
     exact (h k hk).2
    ·exact .mk ⟨fun h=>(by cases h),fun hr=>absurd ⟨hk,hr.all _ (List.getElem_mem hk)⟩ h⟩
  show bE (bd (if (0:Int)<(a.Proof.length:Int) then bd (jd (Ea a.S) a.Proof) fun cL=>if !cL then some true else ix a.Proof 0 fun y=>some (decide (a.View<y.View)) else some false) _) _
  by_cases hl:a.Proof.length=0
  ·simp only [hl,Int.natCast_zero,Int.lt_irrefl,if_false,aA,Bool.false_eq_true]
   exact last (.inl (List.eq_nil_of_length_eq_zero hl))
  ·obtain ⟨r,e,hr⟩:=DK a.S a.Proof hp
   have h0:0<a.Proof.length:=by omega
   simp only [show ((0:Int)<(a.Proof.length:Int)) by omega,if_true,e,aA]
   cases r with
   |false=>
    simp only [Bool.not_false,if_true,aA]
    refine .mk ⟨fun h=>(by cases h),fun h=> ?_⟩
    rcases h.oV.proof with h1|⟨h1,_⟩
    ·rw [h1] at hl;exact absurd rfl hl
    ·have:=hr.2 h1;cases this
   |true=>
    have Ml:=hr.1 rfl
    simp only [Bool.not_true,Bool.false_eq_true,if_false,gn h0,aA]
    by_cases hw:a.View<a.Proof[0].View
    ·simp only [hw,decide_true,if_true]
     refine .mk ⟨fun h=>(by cases h),fun h=> ?_⟩
     rcases h.oV.proof with h1|⟨_,h1⟩
     ·rw [h1] at hl;exact absurd rfl hl
     ·have:=(ym Ml h0).1 h1;omega
    ·simp only [hw,decide_false,Bool.false_eq_true,if_false]
     exact last (.inr ⟨Ml,(ym Ml h0).2 (by omega)⟩)
 show bE (bd (if a.Has then if a.At<0 then some true else if a.View<a.At then some true else if (6000:Int)<(a.Value.length:Int) then some true else if !a.Has then (if !decide (a.At=0) then some true else some (!decide (a.Value=([]:List UInt8)))) else some false else if !a.Has then (if !decide (a.At=0) then some true else some (!decide (a.Value=([]:List UInt8)))) else some false) _) _
 cases hh:a.Has with
 |true=>
  simp only [if_true,Bool.not_true,Bool.false_eq_true,if_false,aA]
  by_cases c3:a.At<0
  ·simp only [c3,if_true,aA];exact .mk ⟨fun h=>(by cases h),fun h=>by have:=(h.oV.has hh).1;omega⟩
  by_cases c4:a.View<a.At
  ·simp only [c3,c4,if_true,if_false,aA];exact .mk ⟨fun h=>(by cases h),fun h=>by have:=(h.oV.has hh).2.1;omega⟩
  by_cases c5:(6000:Int)<(a.Value.length:Int)
  ·simp only [c3,c4,c5,if_true,if_false,aA];exact .mk ⟨fun h=>(by cases h),fun h=>by have:=(h.oV.has hh).2.2;omega⟩
  simp only [c3,c4,c5,if_false,aA,Bool.false_eq_true]
  exact fin (fun _=>by omega) (fun h=>by rw [hh] at h;cases h)
 |false=>
  simp only [Bool.false_eq_true,if_false,Bool.not_false,if_true]
  by_cases c3:a.At=0
  rotate_left
  ·simp only [c3,decide_false,Bool.not_false,if_true,aA];exact .mk ⟨fun h=>(by cases h),fun h=>absurd (h.oV.yl hh).1 c3⟩
  by_cases c4:a.Value=[]
  rotate_left
  ·simp only [c3,c4,decide_true,decide_false,Bool.not_true,Bool.not_false,Bool.false_eq_true,if_true,if_false,aA];exact .mk ⟨fun h=>(by cases h),fun h=>absurd (h.oV.yl hh).2 c4⟩
  simp only [c3,c4,decide_true,Bool.not_true,Bool.false_eq_true,if_false,aA]
  exact fin (fun h=>by rw [hh] at h;cases h) (fun _=>⟨c3,c4⟩)
end Dn.S
