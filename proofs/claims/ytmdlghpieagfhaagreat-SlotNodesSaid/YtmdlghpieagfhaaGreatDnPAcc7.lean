import Derived.Test.YtmdlghpieagfhaaGreatDnPAcc5
/-
  AcceptorOnce. Conditions: none.
-/
set_option linter.unusedVariables false
set_option linter.unusedSimpArgs false
open List.Pairwise renaming nil→fj
open Go Dn
namespace Dn.S
theorem R2 {a:aj}(h:iZ a)(view:Int):iZ (n9 a view).1:=by
 have h0:=h.jP.v0;unfold n9;split
 ·exact h
 ·rename_i hc;refine ⟨h.sz,h.me0,h.Wx,⟨by simp only;omega,by simp only;omega,λhh=> ?_,h.jP.DD,?_⟩,⟨λe he=>(by cases he),fj⟩,λe he=>(by cases he)⟩
  ·have:=h.jP.has hh;simp only;omega
  ·rcases h.jP.proof with hp|⟨hp,hv⟩
   ·exact .inl hp
   ·exact .inr ⟨hp,λe he=>by have:=hv e he;simp only;omega⟩
theorem MW {a:aj}(h:iZ a){view:Int}{value:List UInt8}{ok:Bool}(hf:ok=true->afb a view value):iZ (eR a view value ok).1:=by
 unfold eR;split
 ·rename_i QB;obtain ⟨f1,f2,f3⟩:=hf QB;have h0:=h.jP.v0;have h1:=h.jP.v1;exact ⟨h.sz,h.me0,h.Wx,⟨h0,h1,λ_=>by simp only;omega,λhh=>(by cases hh),h.jP.proof⟩,h.tG,h.all⟩
 ·exact h
theorem IE {a:aj}(h:iZ a)(v:aa):iZ (kU a v).1:=by
 unfold kU;split
 ·exact h
 ·rename_i hc;have gb:v.By<tF a.S:=by refine Int.not_le.1 λh2=>hc (.inl h2)
  have gv:v.View=a.View:=by
   by_cases h:v.View=a.View
   ·exact h
   ·exact absurd (.inr h) hc
  have hv:qZ (ek a.bI.L v).1:=vD h.tG;have mz:=MF h gb gv;split
  ·exact ⟨h.sz,h.me0,h.Wx,⟨h.jP.v0,h.jP.v1,h.jP.has,h.jP.DD,h.jP.proof⟩,hv,mz⟩
  ·rename_i hc2;have hm:(pN a.S (ek a.bI.L v).1).2=true:=by
    cases hk:(pN a.S (ek a.bI.L v).1).2 with
    |true=>rfl
    |false=>exact absurd (.inr (.inl hk)) hc2
   exact ⟨h.sz,h.me0,h.Wx,⟨h.jP.v0,h.jP.v1,h.jP.has,h.jP.DD,.inr ⟨ID h.sz hv (λe he=>(mz e he).1) hm,λe he=>by have:=(mz e (HN he)).2;simp only;omega⟩⟩,hv,mz⟩
theorem Xc {a:aj}(h:iZ a):iZ (Xb a):=⟨h.sz,h.me0,h.Wx,MU h.jP,⟨λe he=>(by cases he),fj⟩,λe he=>(by cases he)⟩
theorem MX {s:ak}{me:Int}(h:q8 s me):iZ ⟨s,me,0,false,0,[],[],⟨[]⟩⟩:=⟨h.1,h.2.1,h.2.2,⟨Int.le_refl 0,show (0:Int)<=100000 by decide,λh=>(by cases h),λ_=>⟨rfl,rfl⟩,.inl rfl⟩,⟨λe he=>(by cases he),fj⟩,λe he=>(by cases he)⟩
theorem eA (a:aj):(⟨(⟨a.S.F,a.S.T⟩:ak),a.Me,a.View,a.Has,a.At,a.Value,a.Proof,(⟨a.bI.L⟩:az)⟩:aj)=a:=rfl
end Dn.S
