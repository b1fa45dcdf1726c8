import Derived.Test.YtmdlghpieagfhaaGreatDnPProof
/- Acceptors: what may be, and what is alike. Conditions: none. -/
set_option linter.unusedVariables false
set_option linter.unusedSimpArgs false
open Bool renaming false_eq_true→cV,not_true→sh,not_false→AI
open List renaming getElem_mem→AT
open Go Dn
namespace Dn.S
def plA (a:af):iQ:=⟨plS a.S,a.Me,a.View,a.Has,a.At,a.Value,a.Proof,⟨a.bT.L⟩⟩
def ach (s:ae)(me:Int):af×Int:=if cC s/\0<=me/\me<kz s then (⟨s,me,0,false,0,[],[],⟨[]⟩⟩,0) else (⟨⟨0,0⟩,0,0,false,0,[],[],⟨[]⟩⟩,1)
theorem Nn (s:ae)(me:Int):nn s me=some (ach s me):=by
 unfold nn ach;simp only [iK,au];by_cases hs:cC s
 ·simp only [hs,decide_true,sh,cV,if_false,true_and];by_cases h0:me<0
  ·simp only [h0,if_true,au];rw [if_neg (by omega)]
  ·simp only [h0,if_false,om hs,au];by_cases h1:3 *s.F+2 *s.T+1<=me
   ·simp only [h1,decide_true,if_true];rw [if_neg (by unfold kz;omega)]
   ·simp only [h1,decide_false,cV,if_false];rw [if_pos (by unfold kz;omega)]
 ·simp [hs]
structure F7 (a:af):Prop where
 v0:0<=a.View
 v1:a.View<=100000
 has:a.Has=true->0<=a.At/\a.At<=a.View/\a.Value.length<=6000
 Ba:a.Has=false->a.At=0/\a.Value=[]
 proof:a.Proof=[]\/(uN a.S a.Proof/\ ∀e∈a.Proof,e.View<=a.View)
structure kO (a:af):Prop where
 sz:cC a.S
 me0:0<=a.Me
 me1:a.Me<kz a.S
 jB:F7 a
 jA:qm a.bT.L
 all: ∀e∈a.bT.L,e.By<kz a.S/\e.View=a.View
theorem aci {s:ae}{p:List aa}{v:Int}(h:uN s p)(h0:0<p.length):(∀e∈p,e.View<=v)↔p[0].View<=v:=by
 constructor
 ·intro ha;exact ha _ (AT h0)
 ·intro ha e he;have:=(h.one e he _ (AT h0)).1;omega
theorem acj (a:af)(hp:a.Proof.length<2^32):aK (ez a) λb=>b=true↔F7 a:=by
 unfold ez;by_cases c1:a.View<0
 ·simp only [c1,if_true,au];exact .mk ⟨λh=>(by cases h),λh=>by have:=h.v0;omega⟩
 by_cases c2:(100000:Int)<a.View
 ·simp only [c1,c2,if_true,if_false,au,decide_true];exact .mk ⟨λh=>(by cases h),λh=>by have:=h.v1;omega⟩
 simp only [c1,c2,if_false,au,decide_false,cV];have fin:(a.Has=true->0<=a.At/\a.At<=a.View/\a.Value.length<=6000)->(a.Has=false->a.At=0/\a.Value=[])-> aK (bd (if (a.Proof.length:Int)=0 then some true else bd (kX a.S a.Proof) λrA=>if rA then ix a.Proof 0 λy=>some (decide (y.View<=a.View)) else some false) λw3=>some w3) λb=>b=true↔F7 a:=by
  intro g1 g2;simp only [ab3];by_cases hl:a.Proof.length=0
  ·simp only [hl,Int.natCast_zero,if_true];exact .mk ⟨λ_=>⟨by omega,by omega,g1,g2,.inl (List.eq_nil_of_length_eq_zero hl)⟩,λ_=>rfl⟩
  ·obtain ⟨r,e,hr⟩:=oo a.S a.Proof hp;simp only [show¬((a.Proof.length:Int)=0) by omega,if_false,e,au];cases r with
   |false=>
    simp only [cV,if_false];refine .mk ⟨λh=>(by cases h),λh=> ?_⟩;rcases h.proof with h1|⟨h1,_⟩
    ·rw [h1] at hl;exact absurd rfl hl
    ·have:=hr.2 h1;cases this
   |true=>
    have hrp:=hr.1 rfl;have h0:0<a.Proof.length:=by omega
    simp only [if_true,yM h0];refine .mk ?_;rw [decide_eq_true_iff,<-aci hrp h0];exact ⟨λh=>⟨by omega,by omega,g1,g2,.inr ⟨hrp,h⟩⟩,λh=>by
     rcases h.proof with h1|⟨_,h1⟩
     ·rw [h1] at hl;exact absurd rfl hl
     ·exact h1⟩
 cases hh:a.Has with
 |true=>
  simp only [if_true,sh,cV,if_false,au];by_cases c3:a.At<0
  ·simp only [c3,if_true,au];exact .mk ⟨λh=>(by cases h),λh=>by have:=(h.has hh).1;omega⟩
  by_cases c4:a.View<a.At
  ·simp only [c3,c4,if_true,if_false,au];exact .mk ⟨λh=>(by cases h),λh=>by have:=(h.has hh).2.1;omega⟩
  by_cases c5:(6000:Int)<(a.Value.length:Int)
  ·simp only [c3,c4,c5,if_true,if_false,au,decide_true];exact .mk ⟨λh=>(by cases h),λh=>by have:=(h.has hh).2.2;omega⟩
  simp only [c3,c4,c5,if_false,au,decide_false,cV];exact fin (λ_=>by omega) (λh=>by rw [hh] at h;cases h)
 |false=>
  simp only [cV,if_false,au,AI,if_true];by_cases c3:a.At=0;rotate_left
  ·simp only [c3,decide_false,AI,if_true,au];exact .mk ⟨λh=>(by cases h),λh=>absurd (h.Ba hh).1 c3⟩
  by_cases c4:a.Value=[];rotate_left
  ·simp only [c3,c4,decide_true,decide_false,sh,AI,cV,if_true,if_false,au];exact .mk ⟨λh=>(by cases h),λh=>absurd (h.Ba hh).2 c4⟩
  simp only [c3,c4,decide_true,sh,cV,if_false,au];exact fin (λh=>by rw [hh] at h;cases h) (λ_=>⟨c3,c4⟩)
end Dn.S
