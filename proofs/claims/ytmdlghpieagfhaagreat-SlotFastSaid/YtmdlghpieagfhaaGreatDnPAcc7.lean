import Derived.Test.YtmdlghpieagfhaaGreatDnPAcc5
/-
  AcceptorOnce. Conditions: none.
-/
open Go Dn
set_option linter.unusedVariables false
set_option linter.unusedSimpArgs false
namespace Dn.S
theorem KL {a:ao} (h:uG a) (v:aa):uG (nN a v).1:=by
 unfold nN
 split
 ·exact h
 ·rename_i hc
  have gb:v.By<vl a.S:=by
   refine Int.not_le.1 fun h2=>hc (.inl h2)
  have gv:v.View=a.View:=by
   by_cases h:v.View=a.View
   ·exact h
   ·exact absurd (.inr h) hc
  have hv:sE (iS a.cP.L v).1:=q0 h.Cn
  have oR:=Fq h gb gv
  split
  ·exact ⟨h.sz,h.me0,h.Zw,⟨h.AO.v0,h.AO.v1,h.AO.has,h.AO.Wt,h.AO.proof⟩,hv,oR⟩
  ·rename_i hc2
   have hm:(nM a.S (iS a.cP.L v).1).2=true:=by
    cases hk:(nM a.S (iS a.cP.L v).1).2 with
    |true=>rfl
    |false=>exact absurd (.inr (.inl hk)) hc2
   exact ⟨h.sz,h.me0,h.Zw,⟨h.AO.v0,h.AO.v1,h.AO.has,h.AO.Wt,.inr ⟨Co h.sz hv (fun e he=>(oR e he).1) hm,fun e he=>by have:=(oR e (BF he)).2;simp only;omega⟩⟩,hv,oR⟩
theorem MG {s:af} {me:Int} (h:Hm s me):uG ⟨s,me,0,false,0,[],[],⟨[]⟩⟩:=
 ⟨h.1,h.2.1,h.2.2,⟨Int.le_refl 0,show (0:Int)≤100000 by decide,fun h=>(by cases h),fun _=>⟨rfl,rfl⟩,.inl rfl⟩,⟨fun e he=>(by cases he),List.Pairwise.nil⟩,fun e he=>(by cases he)⟩
theorem eA (a:ao):(⟨(⟨a.S.F,a.S.T⟩:af),a.Me,a.View,a.Has,a.At,a.Value,a.Proof,(⟨a.cP.L⟩:ay)⟩:ao)=a:=rfl
end Dn.S
