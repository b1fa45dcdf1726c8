import Derived.Test.YtmdlghpieagfhaaGreatDnPAcc5
/-
  AcceptorOnce. Conditions: none.
-/
set_option linter.unusedVariables false
set_option linter.unusedSimpArgs false
open List.Pairwise renaming nil→cM
open Go Dn
namespace Dn.S
theorem OW {a:ah}(h:kV a)(view:Int):kV (lM a view).1:=by
 have h0:=h.lm.v0;unfold lM;split
 ·exact h
 ·rename_i hc;refine ⟨h.sz,h.me0,h.me1,⟨by simp only;omega,by simp only;omega,λhh=> ?_,h.lm.Gy,?_⟩,⟨λe he=>(by cases he),cM⟩,λe he=>(by cases he)⟩
  ·have:=h.lm.has hh;simp only;omega
  ·rcases h.lm.proof with hp|⟨hp,hv⟩
   ·exact .inl hp
   ·exact .inr ⟨hp,λe he=>by have:=hv e he;simp only;omega⟩
theorem Ks {a:ah}(h:kV a){view:Int}{value:List UInt8}{ok:Bool}(hf:ok=true->Rn a view value):kV (b8 a view value ok).1:=by
 unfold b8;split
 ·rename_i Pc;obtain ⟨f1,f2,f3⟩:=hf Pc;have h0:=h.lm.v0;have h1:=h.lm.v1;exact ⟨h.sz,h.me0,h.me1,⟨h0,h1,λ_=>by simp only;omega,λhh=>(by cases hh),h.lm.proof⟩,h.ll,h.all⟩
 ·exact h
theorem GB {a:ah}(h:kV a)(v:aa):kV (fm a v).1:=by
 unfold fm;split
 ·exact h
 ·rename_i hc;have gb:v.By<mS a.S:=by refine Int.not_le.1 λh2=>hc (.inl h2)
  have gv:v.View=a.View:=by
   by_cases h:v.View=a.View
   ·exact h
   ·exact absurd (.inr h) hc
  have hv:pZ (dV a.cF.L v).1:=uB h.ll;have kF:=Ro h gb gv;split
  ·exact ⟨h.sz,h.me0,h.me1,⟨h.lm.v0,h.lm.v1,h.lm.has,h.lm.Gy,h.lm.proof⟩,hv,kF⟩
  ·rename_i XV;have hm:(oW a.S (dV a.cF.L v).1).2=true:=by
    cases hk:(oW a.S (dV a.cF.L v).1).2 with
    |true=>rfl
    |false=>exact absurd (.inr (.inl hk)) XV
   exact ⟨h.sz,h.me0,h.me1,⟨h.lm.v0,h.lm.v1,h.lm.has,h.lm.Gy,.inr ⟨Gz h.sz hv (λe he=>(kF e he).1) hm,λe he=>by have:=(kF e (FC he)).2;simp only;omega⟩⟩,hv,kF⟩
theorem T4 {a:ah}(h:kV a):kV (T3 a):=⟨h.sz,h.me0,h.me1,Kr h.lm,⟨λe he=>(by cases he),cM⟩,λe he=>(by cases he)⟩
theorem Kt {s:ae}{me:Int}(h:vN s me):kV ⟨s,me,0,false,0,[],[],⟨[]⟩⟩:=⟨h.1,h.2.1,h.2.2,⟨Int.le_refl 0,show (0:Int)<=100000 by decide,λh=>(by cases h),λ_=>⟨rfl,rfl⟩,.inl rfl⟩,⟨λe he=>(by cases he),cM⟩,λe he=>(by cases he)⟩
theorem eA (a:ah):(⟨(⟨a.S.F,a.S.T⟩:ae),a.Me,a.View,a.Has,a.At,a.Value,a.Proof,(⟨a.cF.L⟩:aA)⟩:ah)=a:=rfl
end Dn.S
