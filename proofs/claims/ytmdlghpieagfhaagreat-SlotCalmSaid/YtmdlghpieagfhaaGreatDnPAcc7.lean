import Derived.Test.YtmdlghpieagfhaaGreatDnPAcc5
/- AcceptorOnce. Conditions: none. -/
set_option linter.unusedVariables false
set_option linter.unusedSimpArgs false
open List.Pairwise renaming nil→cV
open Go Dn
namespace Dn.S
theorem Pq {a:af}(h:kO a)(view:Int):kO (iL a view).1:=by
 have h0:=h.jB.v0;unfold iL;split
 ·exact h
 ·rename_i hc;refine ⟨h.sz,h.me0,h.me1,⟨by simp only;omega,by simp only;omega,λhh=> ?_,h.jB.Ba,?_⟩,⟨λe he=>(by cases he),cV⟩,λe he=>(by cases he)⟩
  ·have:=h.jB.has hh;simp only;omega
  ·rcases h.jB.proof with hp|⟨hp,hv⟩
   ·exact .inl hp
   ·exact .inr ⟨hp,λe he=>by have:=hv e he;simp only;omega⟩
theorem KO {a:af}(h:kO a){view:Int}{value:List UInt8}{ok:Bool}(hf:ok=true->Np a view value):kO (bU a view value ok).1:=by
 unfold bU;split
 ·rename_i Qp;obtain ⟨f1,f2,f3⟩:=hf Qp;have h0:=h.jB.v0;have h1:=h.jB.v1;exact ⟨h.sz,h.me0,h.me1,⟨h0,h1,λ_=>by simp only;omega,λhh=>(by cases hh),h.jB.proof⟩,h.jA,h.all⟩
 ·exact h
theorem G4 {a:af}(h:kO a)(v:aa):kO (dp a v).1:=by
 unfold dp;split
 ·exact h
 ·rename_i hc;have gb:v.By<kz a.S:=by refine Int.not_le.1 λh2=>hc (.inl h2)
  have gv:v.View=a.View:=by
   by_cases h:v.View=a.View
   ·exact h
   ·exact absurd (.inr h) hc
  have hv:qm (cL a.bT.L v).1:=oW h.jA;have ku:=Bb h gb gv;split
  ·exact ⟨h.sz,h.me0,h.me1,⟨h.jB.v0,h.jB.v1,h.jB.has,h.jB.Ba,h.jB.proof⟩,hv,ku⟩
  ·rename_i YC;have hm:(jq a.S (cL a.bT.L v).1).2=true:=by
    cases hk:(jq a.S (cL a.bT.L v).1).2 with
    |true=>rfl
    |false=>exact absurd (.inr (.inl hk)) YC
   exact ⟨h.sz,h.me0,h.me1,⟨h.jB.v0,h.jB.v1,h.jB.has,h.jB.Ba,.inr ⟨vY h.sz hv (λe he=>(ku e he).1) hm,λe he=>by have:=(ku e (xE he)).2;simp only;omega⟩⟩,hv,ku⟩
theorem UD {a:af}(h:kO a):kO (UC a):=⟨h.sz,h.me0,h.me1,KN h.jB,⟨λe he=>(by cases he),cV⟩,λe he=>(by cases he)⟩
theorem KP {s:ae}{me:Int}(h:v8 s me):kO ⟨s,me,0,false,0,[],[],⟨[]⟩⟩:=⟨h.1,h.2.1,h.2.2,⟨Int.le_refl 0,show (0:Int)<=100000 by decide,λh=>(by cases h),λ_=>⟨rfl,rfl⟩,.inl rfl⟩,⟨λe he=>(by cases he),cV⟩,λe he=>(by cases he)⟩
theorem eA (a:af):(⟨(⟨a.S.F,a.S.T⟩:ae),a.Me,a.View,a.Has,a.At,a.Value,a.Proof,(⟨a.bT.L⟩:aA)⟩:af)=a:=rfl
end Dn.S
