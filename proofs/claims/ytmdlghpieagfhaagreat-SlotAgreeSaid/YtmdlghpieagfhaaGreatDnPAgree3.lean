import Derived.Test.YtmdlghpieagfhaaGreatDnPAgree2
/-
  What good ones said, and what each node knows of it. Conditions: none.
-/
set_option linter.unusedVariables false
set_option linter.unusedSimpArgs false
open Go Dn
namespace Dn.S
structure Gh where
 V:aa->Prop
 C:aa->Prop
 R:ab->Prop
 L:List UInt8->Prop
structure Gh.le (g g':Gh):Prop where
 V: ∀a,g.V a->g'.V a
 C: ∀a,g.C a->g'.C a
 R: ∀r,g.R r->g'.R r
 L: ∀x,g.L x->g'.L x
theorem Gh.le.refl (g:Gh):g.le g:=⟨λ_ h=>h,λ_ h=>h,λ_ h=>h,λ_ h=>h⟩
theorem Gh.le.trans {g g' g2:Gh}(h:g.le g') (h':g'.le g2):g.le g2:=⟨λa q=>h'.V a (h.V a q),λa q=>h'.C a (h.C a q),λa q=>h'.R a (h.R a q),λa q=>h'.L a (h.L a q)⟩
structure Gh.own (i:Int) (g g':Gh):Prop where
 V: ∀a,g'.V a->g.V a\/a.By=i
 C: ∀a,g'.C a->g.C a\/a.By=i
 R: ∀r,g'.R r->g.R r\/r.By=i
theorem Gh.own.refl (i:Int)(g:Gh):Gh.own i g g:=⟨λ_ h=> .inl h,λ_ h=> .inl h,λ_ h=> .inl h⟩
theorem Gh.own.trans {i:Int} {g g' g2:Gh}(h:Gh.own i g g') (h':Gh.own i g' g2):Gh.own i g g2:=⟨λa q=>(h'.V a q).elim (h.V a) .inr,λa q=>(h'.C a q).elim (h.C a) .inr,λa q=>(h'.R a q).elim (h.R a) .inr⟩
structure tj (F T:Nat) (bad:List Bool) (g:Gh):Prop where
 said:abv F T bad g.V g.C g.R
 yB: ∀x,g.L x-> ∃v,oN F T bad g.V g.C v x
structure af7 (bad:List Bool) (g:Gh) (i:Int) (n:ar):Prop where
 X6:n.A.Has=true->g.V ⟨i,n.A.At,n.A.Value⟩
 Vw: ∀a,g.V a->a.By=i->n.A.Has=true/\a.View<=n.A.At
 XI: ∀a,g.C a->a.By=i->a.View<=(rn n.A.Proof).1
 Vx: ∀r,g.R r->r.By=i->r.je<=n.A.View
 ll:Real bad g.V n.A.cF.L
 proof:Real bad g.V n.A.Proof
 Hf: ∀r∈n.eH,(M8 bad r.By\/g.R r)/\Real bad g.V r.Proof
 acc:Real bad g.V n.L.aY.L
 zk:Real bad g.C n.L.bn.L
 told: ∀e∈n.L.Told.L,M8 bad e.By\/g.L e.Value
structure sa (bad:List Bool) (g:Gh) (i:Int) (n:ar):Prop extends af7 bad g i n where
 done:n.L.bQ=true->g.L n.L.Value
structure LB (bad:List Bool) (g:Gh) (m:al):Prop where
 prop:m.Kind=1-> ∀r∈m.fN,(M8 bad r.By\/g.R r)/\Real bad g.V r.Proof
 aeF:m.Kind=2->M8 bad m.dv.By\/g.V m.dv
 zk:m.Kind=3->Real bad g.V m.Proof/\(M8 bad m.eE\/g.C ⟨m.eE,(rn m.Proof).1,(rn m.Proof).2.1⟩)
 rep:m.Kind=4->(M8 bad m.R.By\/g.R m.R)/\Real bad g.V m.R.Proof
 told:m.Kind=5->M8 bad m.eE\/g.L m.Value
theorem Real.mono {bad:List Bool}{V W:aa->Prop}{p:List aa}(h:Real bad V p)(hw: ∀a,V a->W a):Real bad W p:=λe he=>(h e he).imp id (hw e)
theorem LB.mono {bad:List Bool} {g g':Gh}{m:al}(h:LB bad g m)(hg:g.le g'):LB bad g' m:=⟨λk r hr=>⟨(h.prop k r hr).1.imp id (hg.R r),(h.prop k r hr).2.mono hg.V⟩,λk=>(h.aeF k).imp id (hg.V _),λk=>⟨(h.zk k).1.mono hg.V,(h.zk k).2.imp id (hg.C _)⟩,λk=>⟨(h.rep k).1.imp id (hg.R _),(h.rep k).2.mono hg.V⟩,λk=>(h.told k).imp id (hg.L _)⟩
theorem sa.mono {bad:List Bool} {g g':Gh}{i j:Int}{n:ar}(h:sa bad g j n)(hg:g.le g')(ho:Gh.own i g g')(hij:j≠i):sa bad g' j n:=by
 refine ⟨⟨λq=>hg.V _ (h.X6 q),λa ha hb=> ?_,λa ha hb=> ?_,λr hr hb=> ?_,h.ll.mono hg.V,h.proof.mono hg.V,λr hr=>⟨(h.Hf r hr).1.imp id (hg.R r),(h.Hf r hr).2.mono hg.V⟩,h.acc.mono hg.V,h.zk.mono hg.C,λe he=>(h.told e he).imp id (hg.L _)⟩,λq=>hg.L _ (h.done q)⟩
 ·rcases ho.V a ha with q|q
  ·exact h.Vw a q hb
  ·omega
 ·rcases ho.C a ha with q|q
  ·exact h.XI a q hb
  ·omega
 ·rcases ho.R r hr with q|q
  ·exact h.Vx r q hb
  ·omega
theorem TQ.mono {F T:Nat}{bad:List Bool}{V W:aa->Prop} {R R':ab->Prop}{w:Int}{x:List UInt8}(h:TQ F T bad V R w x)(hv: ∀a,V a->W a)(hr: ∀r,R r->R' r):TQ F T bad W R' w x:=by obtain ⟨L,h1,h2,h3,h4⟩:=h;exact ⟨L,h1,h2,λr hrL=>by obtain ⟨q1,q2,q3,q4,q5,q6⟩:=h3 r hrL;exact ⟨q1,q2,q3,q4.imp id (hr r),q5,λdb=>⟨(q6 db).1.mono hv,(q6 db).2⟩⟩,h4⟩
theorem oN.mono {F T:Nat}{bad:List Bool}{V W C D:aa->Prop}{v:Int}{x:List UInt8}(h:oN F T bad V C v x)(hv: ∀a,V a->W a)(hc: ∀a,C a->D a):oN F T bad W D v x:=h.imp (·.mono hv) (·.mono hc)
theorem tj.dV {F T:Nat}{bad:List Bool}{g:Gh}(h:tj F T bad g){a:aa}(h0:0<=a.View)(h1: ∀b,g.V b->b.By=a.By->b.View<a.View)(h2: ∀r,g.R r->r.By=a.By->r.je<=a.View)(h3:0<a.View->TQ F T bad g.V g.R a.View a.Value):tj F T bad {g with V:=λb=>g.V b\/b=a}:=by
 have hv: ∀b,g.V b->(g.V b\/b=a):=λb=> .inl;refine ⟨⟨h.said.Hs,h.said.size,?_,?_,?_,λr hr hh=> .inl (h.said.abx r hr hh),h.said.aev,λc hc=>(h.said.Vl c hc).mono hv,?_⟩,λx hx=> ?_⟩
 ·rintro b c (hb|rfl) (hc|rfl) e1 e2
  ·exact h.said.abw b c hb hc e1 e2
  ·have:=h1 b hb e1;omega
  ·have:=h1 c hc e1.symm;omega
  ·rfl
 ·rintro b (hb|rfl)
  ·exact h.said.v0 b hb
  ·exact h0
 ·rintro r b hr (hb|rfl) e1 e2
  ·exact h.said.Vk r b hr hb e1 e2
  ·have:=h2 r hr e1.symm;omega
 ·rintro b (hb|rfl) hp
  ·exact (h.said.back b hb hp).mono hv λ_ q=>q
  ·exact (h3 hp).mono hv λ_ q=>q
 ·obtain ⟨v,FL⟩:=h.yB x hx;exact ⟨v,FL.mono hv λ_ q=>q⟩
theorem tj.arT {F T:Nat}{bad:List Bool}{g:Gh}(h:tj F T bad g){a:aa}(h2: ∀r,g.R r->r.By=a.By->r.je<=a.View)(h3:OO bad g.V (2 *F+T+1) a.View a.Value):tj F T bad {g with C:=λb=>g.C b\/b=a}:=by
 refine ⟨⟨h.said.Hs,h.said.size,h.said.abw,h.said.v0,h.said.Vk,h.said.abx,?_,?_,h.said.back⟩,λx hx=> ?_⟩
 ·rintro r b hr (hb|rfl) e1 e2
  ·exact h.said.aev r b hr hb e1 e2
  ·have:=h2 r hr e1.symm;omega
 ·rintro b (hb|rfl)
  ·exact h.said.Vl b hb
  ·exact h3
 ·obtain ⟨v,FL⟩:=h.yB x hx;exact ⟨v,FL.mono (λ_ q=>q) λ_=> .inl⟩
theorem tj.arU {F T:Nat}{bad:List Bool}{g:Gh}(h:tj F T bad g){r:ab}(h1: ∀a,g.V a->a.By=r.By->r.Has=true/\a.View<=r.View)(h2:r.Has=true->g.V ⟨r.By,r.View,r.Value⟩)(h3: ∀a,g.C a->a.By=r.By->a.View<=(rn r.Proof).1):tj F T bad {g with R:=λb=>g.R b\/b=r}:=by
 refine ⟨⟨h.said.Hs,h.said.size,h.said.abw,h.said.v0,?_,?_,?_,h.said.Vl,λa ha hp=>(h.said.back a ha hp).mono (λ_ q=>q) λ_=> .inl⟩,h.yB⟩
 ·rintro b a (hb|rfl) ha e1 e2
  ·exact h.said.Vk b a hb ha e1 e2
  ·exact h1 a ha e1
 ·rintro b (hb|rfl) hh
  ·exact h.said.abx b hb hh
  ·exact h2 hh
 ·rintro b a (hb|rfl) ha e1 e2
  ·exact h.said.aev b a hb ha e1 e2
  ·exact h3 a ha e1
theorem tj.arV {F T:Nat}{bad:List Bool}{g:Gh}(h:tj F T bad g){x:List UInt8}{P:Prop}(hx:P-> ∃v,oN F T bad g.V g.C v x):tj F T bad {g with L:=λy=>g.L y\/(P/\y=x)}:=by
 refine ⟨h.said,?_⟩;rintro y (hy|⟨hp,rfl⟩)
 ·exact h.yB y hy
 ·exact hx hp
theorem AQ {bad:List Bool}{V:aa->Prop}{l:aq}{t:List aa}{cg:Int}(hd:l.bQ=false)(hr:pZ t)(hb: ∀e∈t,e.By.toNat<bad.length)(hs:Real bad V t)(h:(eu l t cg).bQ=true): ∃v,OO bad V cg.toNat v (eu l t cg).Value:=by
 unfold eu at *;cases hz:p0 t cg with
 |none=>simp only [hz] at h;rw [hd] at h;cases h
 |some z=>simp only [hz] at h⊢;obtain ⟨z1,z2,z3,_⟩:=CR hz;exact ⟨z.View,(Vv hr hb hs z.View z.Value).le (by omega)⟩
theorem KD {s:ae}{bad:List Bool}{L:List aa}{last:Int}(hn:(bad.length:Int)=mS s)(h:Ku s L last): ∀e∈L,e.By.toNat<bad.length:=λe he=>by have h1:=(h.1 e he).1;have h2:=(h.2.all e he).1;omega
theorem CZ (l:aq)(t:List aa)(n:Int):(eu l t n).aY=l.aY/\(eu l t n).bn=l.bn/\(eu l t n).Told=l.Told:=by unfold eu;split<;>exact ⟨rfl,rfl,rfl⟩
end Dn.S
