import Derived.Test.YtmdlghpieagfhaaGreatDnPAcc5
/-
  AcceptorOnce. Conditions: none.
-/
set_option linter.unusedVariables false
set_option linter.unusedSimpArgs false
open List.Pairwise renaming nil→eJ
open Go Dn
namespace Dn.S
theorem N7 {a:ae}(h:iK a)(view:Int):iK (j9 a view).1:=by
 have h0:=h.jc.v0;unfold j9;split
 ·exact h
 ·rename_i hc;refine ⟨h.sz,h.me0,h.YD,⟨by simp only;omega,by simp only;omega,λhh=> ?_,h.jc.Ce,?_⟩,⟨λe he=>(by cases he),eJ⟩,λe he=>(by cases he)⟩
  ·have:=h.jc.has hh;simp only;omega
  ·rcases h.jc.proof with hp|⟨hp,hv⟩
   ·exact .inl hp
   ·exact .inr ⟨hp,λe he=>by have:=hv e he;simp only;omega⟩
theorem J9 {a:ae}(h:iK a){view:Int}{value:List UInt8}{ok:Bool}(hf:ok=true->TS a view value):iK (cN a view value ok).1:=by
 unfold cN;split
 ·rename_i M4;obtain ⟨f1,f2,f3⟩:=hf M4;have h0:=h.jc.v0;have h1:=h.jc.v1;exact ⟨h.sz,h.me0,h.YD,⟨h0,h1,λ_=>by simp only;omega,λhh=>(by cases hh),h.jc.proof⟩,h.uJ,h.all⟩
 ·exact h
theorem GD {a:ae}(h:iK a)(v:aa):iK (iD a v).1:=by
 unfold iD;split
 ·exact h
 ·rename_i hc;have gb:v.By<uI a.S:=by refine Int.not_le.1 λh2=>hc (.inl h2)
  have gv:v.View=a.View:=by
   by_cases h:v.View=a.View
   ·exact h
   ·exact absurd (.inr h) hc
  have hv:qz (ia a.bV.L v).1:=uG h.uJ;have my:=JU h gb gv;split
  ·exact ⟨h.sz,h.me0,h.YD,⟨h.jc.v0,h.jc.v1,h.jc.has,h.jc.Ce,h.jc.proof⟩,hv,my⟩
  ·rename_i hc2;have hm:(qN a.S (ia a.bV.L v).1).2=true:=by
    cases hk:(qN a.S (ia a.bV.L v).1).2 with
    |true=>rfl
    |false=>exact absurd (.inr (.inl hk)) hc2
   exact ⟨h.sz,h.me0,h.YD,⟨h.jc.v0,h.jc.v1,h.jc.has,h.jc.Ce,.inr ⟨GB h.sz hv (λe he=>(my e he).1) hm,λe he=>by have:=(my e (FJ he)).2;simp only;omega⟩⟩,hv,my⟩
theorem SE {a:ae}(h:iK a):iK (SD a):=⟨h.sz,h.me0,h.YD,J8 h.jc,⟨λe he=>(by cases he),eJ⟩,λe he=>(by cases he)⟩
theorem Ka {s:af}{me:Int}(h:sr s me):iK ⟨s,me,0,false,0,[],[],⟨[]⟩⟩:=⟨h.1,h.2.1,h.2.2,⟨Int.le_refl 0,show (0:Int)<=100000 by decide,λh=>(by cases h),λ_=>⟨rfl,rfl⟩,.inl rfl⟩,⟨λe he=>(by cases he),eJ⟩,λe he=>(by cases he)⟩
theorem eA (a:ae):(⟨(⟨a.S.F,a.S.T⟩:af),a.Me,a.View,a.Has,a.At,a.Value,a.Proof,(⟨a.bV.L⟩:aD)⟩:ae)=a:=rfl
end Dn.S
