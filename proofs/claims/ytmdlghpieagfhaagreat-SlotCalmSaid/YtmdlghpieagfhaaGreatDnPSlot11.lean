import Derived.Test.YtmdlghpieagfhaaGreatDnPSlot10
/- Slots: what a node's act keeps and says. Conditions: none. -/
set_option linter.unusedVariables false
set_option linter.unusedSimpArgs false
open List renaming mem_singleton→cV,mem_append→AI
open Bool renaming false_eq_true→sh
open Go Dn
namespace Dn.S
theorem qq.s {m:ai}(h:qq m):acA m:=by have h1:=h.proof;have h2:=h.gJ;have h3:=h.r;exact ⟨by omega,λr hr=>by have:=h.G6 r hr;omega,by omega,by omega⟩
structure lH (s:ae) (i:Int) (n:ao) (k:Nat) (x:ao×List ai):Prop where
 inv:dP s i x.1 (k+1)
 has:n.A.Has=true->x.1.A.Has=true/\(n.A.At<x.1.A.At\/(n.A.At=x.1.A.At/\n.A.Value=x.1.A.Value))
 says: ∀y∈x.2,y.Kind=2->y.bM.By=i/\x.1.A.Has=true/\y.bM.View=x.1.A.At/\y.bM.Value=x.1.A.Value/\(n.A.Has=true->n.A.At<x.1.A.At)
 out:x.2.length<=10
 short: ∀y∈x.2,qq y
theorem lH.same {s:ae}{i:Int} {n n':ao}{k:Nat}{out:List ai}(hi:dP s i n' (k+1))(h1:n'.A.Has=n.A.Has)(h2:n'.A.At=n.A.At)(h3:n'.A.Value=n.A.Value)(hl:out.length<=10)(hs: ∀y∈out,y.Kind≠2/\qq y):lH s i n k (n',out):=⟨hi,λh=>⟨by rw [h1];exact h,.inr ⟨h2.symm,h3.symm⟩⟩,λy hy h=>absurd h (hs y hy).1,hl,λy hy=>(hs y hy).2⟩
theorem afj (v:aa):qq (pq v):=⟨by simp [pq],by simp [pq],by simp [pq],by simp [pq]⟩
theorem afk (i:Int)(x:List UInt8):qq (Bf i x):=⟨by simp [Bf],by simp [Bf],by simp [Bf],by simp [Bf]⟩
theorem lH.told {s:ae}{i:Int} {n n':ao}{k:Nat}{out:List ai}(h:lH s i n k (n',out))(hl:out.length<=5)(EQ:Bool):lH s i n k (n',lG i EQ n' out):=by
 refine ⟨h.inv,h.has,?_,acB hl,?_⟩
 ·unfold lG;split
  ·intro y hy hk;rcases AI.1 hy with hy|hy
   ·exact h.says y hy hk
   ·rw [cV.1 hy] at hk;exact absurd hk (by simp [Bf])
  ·exact h.says
 ·unfold lG;split
  ·intro y hy;rcases AI.1 hy with hy|hy
   ·exact h.short y hy
   ·rw [cV.1 hy];exact afk _ _
  ·exact h.short
theorem lH.Nz {s:ae}{i:Int}{n:ao}{k:Nat} (n':ao)(out:List ai)(EQ:Bool)(hi:dP s i n' (k+1))(h1:n'.A.Has=n.A.Has)(h2:n'.A.At=n.A.At)(h3:n'.A.Value=n.A.Value)(hl:out.length<=5)(hs: ∀y∈out,y.Kind≠2/\qq y):lH s i n k (n',lG i EQ n' out):=(lH.same hi h1 h2 h3 (by omega) hs).told hl EQ
theorem Yg {a:af}(h:kO a):a.Proof.length<=30:=by
 have Nj:=(b7 _).1 h.sz;rcases h.jB.proof with e|⟨e,_⟩
 ·rw [e];simp
 ·have:=e.len;omega
theorem UJ (a:af)(v:aa):(dp a v).1.Has=a.Has/\(dp a v).1.At=a.At/\(dp a v).1.Value=a.Value/\((dp a v).2.2=true->(dp a v).2.1=(dp a v).1.Proof):=by
 unfold dp;split
 ·exact ⟨rfl,rfl,rfl,λh=>(by cases h)⟩
 ·split
  ·exact ⟨rfl,rfl,rfl,λh=>(by cases h)⟩
  ·exact ⟨rfl,rfl,rfl,λ_=>rfl⟩
theorem R7 (a:af)(v:Int):(iL a v).1.Has=a.Has/\(iL a v).1.At=a.At/\(iL a v).1.Value=a.Value/\(iL a v).2.1.Proof.length<=a.Proof.length:=by unfold iL;split<;>exact ⟨rfl,rfl,rfl,by simp⟩
theorem L5 {s:ae}{i:Int}{n:ao}{k:Nat}(h:dP s i n k){v:Int}{x:List UInt8}{ok:Bool}(hf:ok=true->Np n.A v x):lH s i n k (⟨(bU n.A v x ok).1,n.L,n.dq,n.et⟩,if (bU n.A v x ok).2.2 then [pq (bU n.A v x ok).2.1] else []):=by
 have hinv:dP s i ⟨(bU n.A v x ok).1,n.L,n.dq,n.et⟩ (k+1):=⟨KO h.acc hf,by rw [(KT _ _ _ _).1];exact h.zM,by rw [(KT _ _ _ _).2];exact h.sq,h.dU,h.qp,h.inc,h.small,by have:=h.len;simp only;omega⟩
 cases ok with
 |false=>exact .same hinv rfl rfl rfl (by simp [bU]) (by simp [bU])
 |true=>
  obtain ⟨f1,f2,f3⟩:=hf rfl;have cJ:n.A.Has=true->n.A.At<v:=λhh=>by have h1:=(h.acc.jB.has hh).2.1;have h2:n.A.At≠v:=λe=>f2 ⟨hh,e⟩;omega
  refine ⟨hinv,λhh=>⟨rfl,.inl (cJ hh)⟩,λy hy hk=> ?_,by simp [bU],λy hy=> ?_⟩
  ·have:y=pq ⟨n.A.Me,v,x⟩:=by simpa [bU] using hy
   subst this;exact ⟨h.sq,rfl,rfl,rfl,cJ⟩
  ·have:y=pq ⟨n.A.Me,v,x⟩:=by simpa [bU] using hy
   subst this;exact afj _
theorem R8 {s:ae}{i:Int}{n:ao}{k:Nat}(h:dP s i n k)(hk:k<=1000000){r:ab}(hr:r.Proof.length<=100): ∃ok,ke n s i r=some ((),⟨n.A,n.L,wL n r ok,n.et⟩):=by
 have hs:=h.sz;have hl:=h.len;obtain ⟨b,eb,_⟩:=KF s r (by omega);have hle:=A6 (key:=rk) n.dq r.By;refine ⟨decide (n.A.View=r.fS)&&decide (dG s r.fS=i)&&b,?_⟩;unfold ke wL;rw [R3 h.inc (by omega),au,dI hs];simp only [au,eb];have hg:(if !(nR rk n.dq r.By) then if n.A.View=r.fS then if dG s r.fS=i then some b else some false else some false else some false:Option Bool)=some (decide ((decide (n.A.View=r.fS)&&decide (dG s r.fS=i)&&b)=true/\nR rk n.dq r.By=false)):=by cases nR rk n.dq r.By<;>by_cases c1:n.A.View=r.fS<;>by_cases c2:dG s r.fS=i<;>cases b<;>simp [c1,c2]
 rw [hg,au];by_cases c:(decide (n.A.View=r.fS)&&decide (dG s r.fS=i)&&b)=true/\nR rk n.dq r.By=false
 ·rw [decide_eq_true c,if_pos rfl,if_pos c,gO (by omega),au,Dg (key:=rk) (by omega)];rfl
 ·rw [decide_eq_false c,if_neg (by simp),if_neg c];rfl
theorem ET {s:ae}{i:Int}{n:ao}{k:Nat}(h:dP s i n k)(hk:k<=1000000){m:ai}(hm:qq m): ∃x,bq s i n m=some x/\lH s i n k x/\x.1.A.View=n.A.View/\x.1.et=n.et:=by
 have hs:=h.sz;obtain ⟨q1,q2,q3⟩:=h.dU.E4;by_cases k1:m.Kind=1
 ·by_cases c:m.cN=dG s m.View
  ·obtain ⟨ok,p1,p3⟩:=yQ n.A m.View m.Value m.fC (λr hr=>by have:=hm.G6 r hr;omega) (by have:=hm.gJ;omega);refine ⟨(⟨(bU n.A m.View m.Value ok).1,n.L,n.dq,n.et⟩,lG i n.L.bw ⟨(bU n.A m.View m.Value ok).1,n.L,n.dq,n.et⟩ (if (bU n.A m.View m.Value ok).2.2 then [pq (bU n.A m.View m.Value ok).2.1] else [])),?_,(L5 h (λh=>(p3 h).1)).told (by split<;>simp) n.L.bw,by simp only [bU];split<;>rfl,rfl⟩;unfold bq;rw [if_pos k1,dI hs,au,if_neg (by simp [c]),p1];cases hh:(bU n.A m.View m.Value ok).2.2 with
   |true=>simp only [au,hh,if_true];rw [if_pos (by simp)];simp only [au];rw [jY _ _ _ (by simp)];rfl
   |false=>simp only [au,hh,if_false,sh];rw [jY _ _ _ (by simp)];rfl
  ·refine ⟨(n,lG i n.L.bw n []),?_,lH.Nz n [] _ (h.mono (by omega)) rfl rfl rfl (by simp) (by simp),rfl,rfl⟩;unfold bq;rw [if_pos k1,dI hs,au,if_pos (by simp [c])];simp only [au];rw [jY _ _ _ (by simp)];rfl
 by_cases k2:m.Kind=2
 ·have p1:=BU h.acc h.acc.E4 m.bM;have a1:=wb h.dU q1 m.bM;obtain ⟨g1,g2,g3,g4⟩:=UJ n.A m.bM;have hr:=G4 h.acc m.bM;refine ⟨(⟨(dp n.A m.bM).1,b8 n.L m.bM,n.dq,n.et⟩,lG i n.L.bw ⟨(dp n.A m.bM).1,b8 n.L m.bM,n.dq,n.et⟩ (if (dp n.A m.bM).2.2 then [yT i (dp n.A m.bM).2.1] else [])),?_,lH.Nz ⟨(dp n.A m.bM).1,b8 n.L m.bM,n.dq,n.et⟩ (if (dp n.A m.bM).2.2 then [yT i (dp n.A m.bM).2.1] else []) _ ⟨hr,by rw [(HV _ _).1];exact h.zM,by rw [(HV _ _).2];exact h.sq,zo h.dU _,by rw [G7];exact h.qp,h.inc,h.small,by have:=h.len;simp only;omega⟩ g1 g2 g3 (by split<;>simp) ?_,by simp only [dp];split<;>(try split)<;>rfl,rfl⟩
  ·unfold bq;rw [if_neg k1,if_pos k2,p1];cases hh:(dp n.A m.bM).2.2 with
   |true=>simp only [au,hh,if_true];rw [if_pos (by simp)];simp only [au,a1];rw [jY _ _ _ (by simp)];rfl
   |false=>simp only [au,hh,if_false,sh,a1];rw [jY _ _ _ (by simp)];rfl
  ·split
   ·rename_i hh;intro y hy;rw [cV.1 hy,g4 hh];exact ⟨by simp [yT],Yg hr,by simp [yT],by simp [yT],by simp [yT]⟩
   ·simp
 by_cases k3:m.Kind=3
 ·have a1:=yS h.dU q2 m.cN m.Proof (by have:=hm.proof;omega);refine ⟨(⟨n.A,fa n.L m.cN m.Proof,n.dq,n.et⟩,lG i n.L.bw ⟨n.A,fa n.L m.cN m.Proof,n.dq,n.et⟩ []),?_,lH.Nz ⟨n.A,fa n.L m.cN m.Proof,n.dq,n.et⟩ [] _ ⟨h.acc,h.zM,h.sq,Ga h.dU _ _,by rw [Pv];exact h.qp,h.inc,h.small,by have:=h.len;simp only;omega⟩ rfl rfl rfl (by simp) (by simp),rfl,rfl⟩;unfold bq;rw [if_neg k1,if_neg k2,if_pos k3,a1];simp only [au];rw [jY _ _ _ (by simp)];rfl
 by_cases k4:m.Kind=4
 ·obtain ⟨ok,a1⟩:=R8 h hk hm.r;refine ⟨(⟨n.A,n.L,wL n m.R ok,n.et⟩,lG i n.L.bw ⟨n.A,n.L,wL n m.R ok,n.et⟩ []),?_,lH.Nz ⟨n.A,n.L,wL n m.R ok,n.et⟩ [] _ (afg h hm.r ok) rfl rfl rfl (by simp) (by simp),rfl,rfl⟩;unfold bq;rw [if_neg k1,if_neg k2,if_neg k3,if_pos k4,a1];simp only [au];rw [jY _ _ _ (by simp)];rfl
 by_cases k5:m.Kind=5
 ·have a1:=Pt h.dU q3 m.cN m.Value;refine ⟨(⟨n.A,uR n.L m.cN m.Value,n.dq,n.et⟩,lG i n.L.bw ⟨n.A,uR n.L m.cN m.Value,n.dq,n.et⟩ []),?_,lH.Nz ⟨n.A,uR n.L m.cN m.Value,n.dq,n.et⟩ [] _ ⟨h.acc,h.zM,h.sq,R2 h.dU _ _,by rw [afh];exact h.qp,h.inc,h.small,by have:=h.len;simp only;omega⟩ rfl rfl rfl (by simp) (by simp),rfl,rfl⟩;unfold bq;rw [if_neg k1,if_neg k2,if_neg k3,if_neg k4,if_pos k5,a1];simp only [au];rw [jY _ _ _ (by simp)];rfl
 ·refine ⟨(n,lG i n.L.bw n []),?_,lH.Nz n [] _ (h.mono (by omega)) rfl rfl rfl (by simp) (by simp),rfl,rfl⟩;unfold bq;rw [if_neg k1,if_neg k2,if_neg k3,if_neg k4,if_neg k5];simp only [au];rw [jY _ _ _ (by simp)];rfl
theorem Ha {s:ae}{i:Int}{n:ao}{k:Nat}(h:dP s i n k)(hk:k<=1000000){m:ai}(hm:qq m): ∃x,bq s i n m=some x/\lH s i n k x:=by obtain ⟨x,e,h,_⟩:=ET h hk hm;exact ⟨x,e,h⟩
theorem yU {s:ae}{i:Int}{n:ao}{k:Nat}(h:dP s i n k)(v:Int):pa s i n v=some (dV n v)/\lH s i n k (dV n v):=by
 obtain ⟨h0,hi⟩:=R5 h v;refine ⟨h0,?_⟩;obtain ⟨g1,g2,g3,g4⟩:=R7 n.A v;have Lj:=h.acc.RX.proof.len;unfold dV at hi⊢;split at hi<;>rename_i hc
 ·rw [if_pos hc];refine .same hi g1 g2 g3 (by simp) λy hy=> ?_;rw [cV.1 hy];exact ⟨by simp [EP],by simp [EP],by simp [EP],by simp [EP],by simp only [EP];omega⟩
 ·rw [if_neg hc];exact .same hi rfl rfl rfl (by simp) (by simp)
theorem EU {s:ae}{i:Int}{n:ao}{k:Nat}(h:dP s i n k)(hk:k<=1000000)(want:List UInt8): ∃x,cF s i n want=some x/\lH s i n k x/\x.1.A.View=n.A.View/\(x.1.et=n.et\/x.1.et=n.A.View):=by
 have hs:=h.sz;have Nj:=(b7 s).1 hs;have hl:=h.len;have qB:dP s i ⟨n.A,n.L,n.dq,n.A.View⟩ (k+1):=⟨h.acc,h.zM,h.sq,h.dU,h.qp,h.inc,h.small,by simp only;omega⟩
 have B3:lH s i n k (n,[]):= .same (h.mono (by omega)) rfl rfl rfl (by simp) (by simp);by_cases c1:dG s n.A.View=i/\ ¬n.A.View<=n.et;rotate_left
 ·refine ⟨(n,[]),?_,B3,rfl,.inl rfl⟩;unfold cF;rw [fX hs,au,dI hs,au];have hg:(if !decide (dG s n.A.View=i) then some true else some (decide (n.A.View<=n.et)):Option Bool)=some true:=by
   by_cases c:dG s n.A.View=i
   ·have:n.A.View<=n.et:=Decidable.byContradiction λh=>c1 ⟨c,h⟩;simp [c,this]
   ·simp [c]
  rw [hg,au,if_pos rfl]
 have hg:(if !decide (dG s n.A.View=i) then some true else some (decide (n.A.View<=n.et)):Option Bool)=some false:=by simp [c1.1,c1.2]
 by_cases c2:(0:Int)<n.A.View;rotate_left
 ·refine ⟨(⟨n.A,n.L,n.dq,n.A.View⟩,[mA i n.A.View want []]),?_,.same qB rfl rfl rfl (by simp) λy hy=>by rw [cV.1 hy];exact ⟨by simp [mA],by simp [mA],by simp [mA],by simp [mA],by simp [mA]⟩,rfl,.inr rfl⟩;unfold cF;rw [fX hs,au,dI hs,au,hg,au];simp only [sh,if_false,c2,au];rfl
 by_cases c3:(n.dq.length:Int)<2 *s.F+2 *s.T+1
 ·refine ⟨(n,[]),?_,B3,rfl,.inl rfl⟩;unfold cF;rw [fX hs,au,dI hs,au,hg,au];simp only [sh,if_false,c2,if_true,au,c3,decide_true]
 have hlen:((n.dq.take (2 *s.F+2 *s.T+1).toNat).length:Int)=2 *s.F+2 *s.T+1:=by rw [List.length_take];omega
 have ed:List.drop (Int.toNat 0) (List.take (Int.toNat (2 *s.F+2 *s.T+1)) n.dq)=n.dq.take (2 *s.F+2 *s.T+1).toNat:=by simp
 obtain ⟨r,b1,b2⟩:=A9 hs _ hlen;refine ⟨(⟨n.A,n.L,n.dq,n.A.View⟩,[mA i n.A.View (if r.2=true then r.1 else want) (n.dq.take (2 *s.F+2 *s.T+1).toNat)]),?_,.same qB rfl rfl rfl (by simp) λy hy=>by rw [cV.1 hy];exact ⟨by simp [mA],by simp [mA],by simp only [mA];omega,λx hx=>h.small x (List.mem_of_mem_take hx),by simp [mA]⟩,rfl,.inr rfl⟩;unfold cF;rw [fX hs,au,dI hs,au,hg,au];simp only [sh,if_false,c2,if_true,au,c3,decide_false];rw [if_pos ⟨by decide,by omega,by omega⟩,ed,gO (by omega),au,b1,au];cases r.2<;>rfl
theorem Hb {s:ae}{i:Int}{n:ao}{k:Nat}(h:dP s i n k)(hk:k<=1000000)(want:List UInt8): ∃x,cF s i n want=some x/\lH s i n k x:=by obtain ⟨x,e,h,_⟩:=EU h hk want;exact ⟨x,e,h⟩
theorem L6 {s:ae}{i:Int}{n:ao}{k:Nat}(h:dP s i n k):nt s i n=some (nd s n)/\lH s i n k (nd s n,[]):=by obtain ⟨q1,q3⟩:=Pw h;exact ⟨q1,.same q3 rfl rfl rfl (by simp) (by simp)⟩
end Dn.S
