import Derived.Test.YtmdlghpieagfhaaGreatDnPAgree2
/- What good ones said, and what each node knows of it. Conditions: none. -/
set_option linter.unusedVariables false
set_option linter.unusedSimpArgs false
open Go Dn
namespace Dn.S
structure Gh where
 V:aa->Prop
 C:aa->Prop
 R:ab->Prop
 L:List UInt8->Prop
structure Gh.le (g g':Gh):Prop where
 V: ∀a,g.V a->g'.V a
 C: ∀a,g.C a->g'.C a
 R: ∀r,g.R r->g'.R r
 L: ∀x,g.L x->g'.L x
theorem Gh.le.refl (g:Gh):g.le g:=⟨λ_ h=>h,λ_ h=>h,λ_ h=>h,λ_ h=>h⟩
theorem Gh.le.trans {g g' g2:Gh}(h:g.le g') (h':g'.le g2):g.le g2:=⟨λa q=>h'.V a (h.V a q),λa q=>h'.C a (h.C a q),λa q=>h'.R a (h.R a q),λa q=>h'.L a (h.L a q)⟩
structure Gh.own (i:Int) (g g':Gh):Prop where
 V: ∀a,g'.V a->g.V a\/a.By=i
 C: ∀a,g'.C a->g.C a\/a.By=i
 R: ∀r,g'.R r->g.R r\/r.By=i
theorem Gh.own.refl (i:Int)(g:Gh):Gh.own i g g:=⟨λ_ h=> .inl h,λ_ h=> .inl h,λ_ h=> .inl h⟩
theorem Gh.own.trans {i:Int} {g g' g2:Gh}(h:Gh.own i g g') (h':Gh.own i g' g2):Gh.own i g g2:=⟨λa q=>(h'.V a q).elim (h.V a) .inr,λa q=>(h'.C a q).elim (h.C a) .inr,λa q=>(h'.R a q).elim (h.R a) .inr⟩
structure tD (F T:Nat) (bad:List Bool) (g:Gh):Prop where
 said:ace F T bad g.V g.C g.R
 yW: ∀x,g.L x-> ∃v,oX F T bad g.V g.C v x
structure agT (bad:List Bool) (g:Gh) (i:Int) (n:ao):Prop where
 YN:n.A.Has=true->g.V ⟨i,n.A.At,n.A.Value⟩
 V2: ∀a,g.V a->a.By=i->n.A.Has=true/\a.View<=n.A.At
 Hf: ∀a,g.C a->a.By=i->a.View<=(mB n.A.Proof).1
 V3: ∀r,g.R r->r.By=i->r.fS<=n.A.View
 jA:Real bad g.V n.A.bT.L
 proof:Real bad g.V n.A.Proof
 Bg: ∀r∈n.dq,(L7 bad r.By\/g.R r)/\Real bad g.V r.Proof
 acc:Real bad g.V n.L.aY.L
 sL:Real bad g.C n.L.aR.L
 told: ∀e∈n.L.Told.L,L7 bad e.By\/g.L e.Value
structure sr (bad:List Bool) (g:Gh) (i:Int) (n:ao):Prop extends agT bad g i n where
 done:n.L.bw=true->g.L n.L.Value
structure L8 (bad:List Bool) (g:Gh) (m:ai):Prop where
 prop:m.Kind=1-> ∀r∈m.fC,(L7 bad r.By\/g.R r)/\Real bad g.V r.Proof
 UG:m.Kind=2->L7 bad m.bM.By\/g.V m.bM
 sL:m.Kind=3->Real bad g.V m.Proof/\(L7 bad m.cN\/g.C ⟨m.cN,(mB m.Proof).1,(mB m.Proof).2.1⟩)
 Ws:m.Kind=4->(L7 bad m.R.By\/g.R m.R)/\Real bad g.V m.R.Proof
 told:m.Kind=5->L7 bad m.cN\/g.L m.Value
theorem Real.mono {bad:List Bool}{V W:aa->Prop}{p:List aa}(h:Real bad V p)(hw: ∀a,V a->W a):Real bad W p:=λe he=>(h e he).imp id (hw e)
theorem L8.mono {bad:List Bool} {g g':Gh}{m:ai}(h:L8 bad g m)(hg:g.le g'):L8 bad g' m:=⟨λk r hr=>⟨(h.prop k r hr).1.imp id (hg.R r),(h.prop k r hr).2.mono hg.V⟩,λk=>(h.UG k).imp id (hg.V _),λk=>⟨(h.sL k).1.mono hg.V,(h.sL k).2.imp id (hg.C _)⟩,λk=>⟨(h.Ws k).1.imp id (hg.R _),(h.Ws k).2.mono hg.V⟩,λk=>(h.told k).imp id (hg.L _)⟩
theorem sr.mono {bad:List Bool} {g g':Gh}{i j:Int}{n:ao}(h:sr bad g j n)(hg:g.le g')(ho:Gh.own i g g')(hij:j≠i):sr bad g' j n:=by
 refine ⟨⟨λq=>hg.V _ (h.YN q),λa ha hb=> ?_,λa ha hb=> ?_,λr hr hb=> ?_,h.jA.mono hg.V,h.proof.mono hg.V,λr hr=>⟨(h.Bg r hr).1.imp id (hg.R r),(h.Bg r hr).2.mono hg.V⟩,h.acc.mono hg.V,h.sL.mono hg.C,λe he=>(h.told e he).imp id (hg.L _)⟩,λq=>hg.L _ (h.done q)⟩
 ·rcases ho.V a ha with q|q
  ·exact h.V2 a q hb
  ·omega
 ·rcases ho.C a ha with q|q
  ·exact h.Hf a q hb
  ·omega
 ·rcases ho.R r hr with q|q
  ·exact h.V3 r q hb
  ·omega
theorem Ur.mono {F T:Nat}{bad:List Bool}{V W:aa->Prop} {R R':ab->Prop}{w:Int}{x:List UInt8}(h:Ur F T bad V R w x)(hv: ∀a,V a->W a)(hr: ∀r,R r->R' r):Ur F T bad W R' w x:=by obtain ⟨L,h1,h2,h3,h4⟩:=h;exact ⟨L,h1,h2,λr hrL=>by obtain ⟨q1,q2,q3,q4,q5,q6⟩:=h3 r hrL;exact ⟨q1,q2,q3,q4.imp id (hr r),q5,λdi=>⟨(q6 di).1.mono hv,(q6 di).2⟩⟩,h4⟩
theorem oX.mono {F T:Nat}{bad:List Bool}{V W C D:aa->Prop}{v:Int}{x:List UInt8}(h:oX F T bad V C v x)(hv: ∀a,V a->W a)(hc: ∀a,C a->D a):oX F T bad W D v x:=h.imp (·.mono hv) (·.mono hc)
theorem tD.cL {F T:Nat}{bad:List Bool}{g:Gh}(h:tD F T bad g){a:aa}(h0:0<=a.View)(h1: ∀b,g.V b->b.By=a.By->b.View<a.View)(h2: ∀r,g.R r->r.By=a.By->r.fS<=a.View)(h3:0<a.View->Ur F T bad g.V g.R a.View a.Value):tD F T bad {g with V:=λb=>g.V b\/b=a}:=by
 have hv: ∀b,g.V b->(g.V b\/b=a):=λb=> .inl;refine ⟨⟨h.said.E4,h.said.size,?_,?_,?_,λr hr hh=> .inl (h.said.acg r hr hh),h.said.ae8,λc hc=>(h.said.VU c hc).mono hv,?_⟩,λx hx=> ?_⟩
 ·rintro b c (hb|rfl) (hc|rfl) e1 e2
  ·exact h.said.acf b c hb hc e1 e2
  ·have:=h1 b hb e1;omega
  ·have:=h1 c hc e1.symm;omega
  ·rfl
 ·rintro b (hb|rfl)
  ·exact h.said.v0 b hb
  ·exact h0
 ·rintro r b hr (hb|rfl) e1 e2
  ·exact h.said.VT r b hr hb e1 e2
  ·have:=h2 r hr e1.symm;omega
 ·rintro b (hb|rfl) hp
  ·exact (h.said.back b hb hp).mono hv λ_ q=>q
  ·exact (h3 hp).mono hv λ_ q=>q
 ·obtain ⟨v,Gg⟩:=h.yW x hx;exact ⟨v,Gg.mono hv λ_ q=>q⟩
theorem tD.asC {F T:Nat}{bad:List Bool}{g:Gh}(h:tD F T bad g){a:aa}(h2: ∀r,g.R r->r.By=a.By->r.fS<=a.View)(h3:Pg bad g.V (2 *F+T+1) a.View a.Value):tD F T bad {g with C:=λb=>g.C b\/b=a}:=by
 refine ⟨⟨h.said.E4,h.said.size,h.said.acf,h.said.v0,h.said.VT,h.said.acg,?_,?_,h.said.back⟩,λx hx=> ?_⟩
 ·rintro r b hr (hb|rfl) e1 e2
  ·exact h.said.ae8 r b hr hb e1 e2
  ·have:=h2 r hr e1.symm;omega
 ·rintro b (hb|rfl)
  ·exact h.said.VU b hb
  ·exact h3
 ·obtain ⟨v,Gg⟩:=h.yW x hx;exact ⟨v,Gg.mono (λ_ q=>q) λ_=> .inl⟩
theorem tD.asD {F T:Nat}{bad:List Bool}{g:Gh}(h:tD F T bad g){r:ab}(h1: ∀a,g.V a->a.By=r.By->r.Has=true/\a.View<=r.View)(h2:r.Has=true->g.V ⟨r.By,r.View,r.Value⟩)(h3: ∀a,g.C a->a.By=r.By->a.View<=(mB r.Proof).1):tD F T bad {g with R:=λb=>g.R b\/b=r}:=by
 refine ⟨⟨h.said.E4,h.said.size,h.said.acf,h.said.v0,?_,?_,?_,h.said.VU,λa ha hp=>(h.said.back a ha hp).mono (λ_ q=>q) λ_=> .inl⟩,h.yW⟩
 ·rintro b a (hb|rfl) ha e1 e2
  ·exact h.said.VT b a hb ha e1 e2
  ·exact h1 a ha e1
 ·rintro b (hb|rfl) hh
  ·exact h.said.acg b hb hh
  ·exact h2 hh
 ·rintro b a (hb|rfl) ha e1 e2
  ·exact h.said.ae8 b a hb ha e1 e2
  ·exact h3 a ha e1
theorem tD.asE {F T:Nat}{bad:List Bool}{g:Gh}(h:tD F T bad g){x:List UInt8}{P:Prop}(hx:P-> ∃v,oX F T bad g.V g.C v x):tD F T bad {g with L:=λy=>g.L y\/(P/\y=x)}:=by
 refine ⟨h.said,?_⟩;rintro y (hy|⟨hp,rfl⟩)
 ·exact h.yW y hy
 ·exact hx hp
theorem Bi {bad:List Bool}{V:aa->Prop}{l:ar}{t:List aa}{b6:Int}(hd:l.bw=false)(hr:qm t)(hb: ∀e∈t,e.By.toNat<bad.length)(hs:Real bad V t)(h:(dS l t b6).bw=true): ∃v,Pg bad V b6.toNat v (dS l t b6).Value:=by
 unfold dS at *;cases hz:ol t b6 with
 |none=>simp only [hz] at h;rw [hd] at h;cases h
 |some z=>simp only [hz] at h⊢;obtain ⟨z1,z2,z3,_⟩:=Di hz;exact ⟨z.View,(V1 hr hb hs z.View z.Value).le (by omega)⟩
theorem K1 {s:ae}{bad:List Bool}{L:List aa}{last:Int}(hn:(bad.length:Int)=kz s)(h:KQ s L last): ∀e∈L,e.By.toNat<bad.length:=λe he=>by have h1:=(h.1 e he).1;have h2:=(h.2.all e he).1;omega
theorem rf (l:ar)(t:List aa)(n:Int):(dS l t n).aY=l.aY/\(dS l t n).aR=l.aR/\(dS l t n).Told=l.Told:=by unfold dS;split<;>exact ⟨rfl,rfl,rfl⟩
end Dn.S
