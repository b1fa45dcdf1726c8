import Derived.Test.YtmdlghpieagfhaaGreatDnPSlot10
/-
  Slots: what a node's act keeps and says. Conditions: none.
-/
set_option linter.unusedVariables false
set_option linter.unusedSimpArgs false
open List renaming mem_singleton→cM,mem_append→AI
open Bool renaming false_eq_true→sh
open Go Dn
namespace Dn.S
theorem xl.s {m:al}(h:xl m):abP m:=by have h1:=h.proof;have h2:=h.kQ;have h3:=h.r;exact ⟨by omega,λr hr=>by have:=h.Kw r hr;omega,by omega,by omega⟩
structure mR (s:ae) (i:Int) (n:ar) (k:Nat) (x:ar×List al):Prop where
 inv:gE s i x.1 (k+1)
 has:n.A.Has=true->x.1.A.Has=true/\(n.A.At<x.1.A.At\/(n.A.At=x.1.A.At/\n.A.Value=x.1.A.Value))
 says: ∀y∈x.2,y.Kind=2->y.dv.By=i/\x.1.A.Has=true/\y.dv.View=x.1.A.At/\y.dv.Value=x.1.A.Value/\(n.A.Has=true->n.A.At<x.1.A.At)
 out:x.2.length<=10
 short: ∀y∈x.2,xl y
theorem mR.same {s:ae}{i:Int} {n n':ar}{k:Nat}{out:List al}(hi:gE s i n' (k+1))(h1:n'.A.Has=n.A.Has)(h2:n'.A.At=n.A.At)(h3:n'.A.Value=n.A.Value)(hl:out.length<=10)(hs: ∀y∈out,y.Kind≠2/\xl y):mR s i n k (n',out):=⟨hi,λh=>⟨by rw [h1];exact h,.inr ⟨h2.symm,h3.symm⟩⟩,λy hy h=>absurd h (hs y hy).1,hl,λy hy=>(hs y hy).2⟩
theorem aeH (v:aa):xl (sC v):=⟨by simp [sC],by simp [sC],by simp [sC],by simp [sC]⟩
theorem aeI (i:Int)(x:List UInt8):xl (He i x):=⟨by simp [He],by simp [He],by simp [He],by simp [He]⟩
theorem mR.told {s:ae}{i:Int} {n n':ar}{k:Nat}{out:List al}(h:mR s i n k (n',out))(hl:out.length<=5)(Et:Bool):mR s i n k (n',nA i Et n' out):=by
 refine ⟨h.inv,h.has,?_,abS hl,?_⟩
 ·unfold nA;split
  ·intro y hy hk;rcases AI.1 hy with hy|hy
   ·exact h.says y hy hk
   ·rw [cM.1 hy] at hk;exact absurd hk (by simp [He])
  ·exact h.says
 ·unfold nA;split
  ·intro y hy;rcases AI.1 hy with hy|hy
   ·exact h.short y hy
   ·rw [cM.1 hy];exact aeI _ _
  ·exact h.short
theorem mR.M5 {s:ae}{i:Int}{n:ar}{k:Nat} (n':ar)(out:List al)(Et:Bool)(hi:gE s i n' (k+1))(h1:n'.A.Has=n.A.Has)(h2:n'.A.At=n.A.At)(h3:n'.A.Value=n.A.Value)(hl:out.length<=5)(hs: ∀y∈out,y.Kind≠2/\xl y):mR s i n k (n',nA i Et n' out):=(mR.same hi h1 h2 h3 (by omega) hs).told hl Et
theorem XF {a:ah}(h:kV a):a.Proof.length<=30:=by
 have Xl:=(dB _).1 h.sz;rcases h.lm.proof with e|⟨e,_⟩
 ·rw [e];simp
 ·have:=e.len;omega
theorem T8 (a:ah)(v:aa):(fm a v).1.Has=a.Has/\(fm a v).1.At=a.At/\(fm a v).1.Value=a.Value/\((fm a v).2.2=true->(fm a v).2.1=(fm a v).1.Proof):=by
 unfold fm;split
 ·exact ⟨rfl,rfl,rfl,λh=>(by cases h)⟩
 ·split
  ·exact ⟨rfl,rfl,rfl,λh=>(by cases h)⟩
  ·exact ⟨rfl,rfl,rfl,λ_=>rfl⟩
theorem RD (a:ah)(v:Int):(lM a v).1.Has=a.Has/\(lM a v).1.At=a.At/\(lM a v).1.Value=a.Value/\(lM a v).2.1.Proof.length<=a.Proof.length:=by unfold lM;split<;>exact ⟨rfl,rfl,rfl,by simp⟩
theorem LA {s:ae}{i:Int}{n:ar}{k:Nat}(h:gE s i n k){v:Int}{x:List UInt8}{ok:Bool}(hf:ok=true->Rn n.A v x):mR s i n k (⟨(b8 n.A v x ok).1,n.L,n.eH,n.ir⟩,if (b8 n.A v x ok).2.2 then [sC (b8 n.A v x ok).2.1] else []):=by
 have hinv:gE s i ⟨(b8 n.A v x ok).1,n.L,n.eH,n.ir⟩ (k+1):=⟨Ks h.acc hf,by rw [(Kx _ _ _ _).1];exact h.CX,by rw [(Kx _ _ _ _).2];exact h.uH,h.eP,h.qS,h.inc,h.small,by have:=h.len;simp only;omega⟩
 cases ok with
 |false=>exact .same hinv rfl rfl rfl (by simp [b8]) (by simp [b8])
 |true=>
  obtain ⟨f1,f2,f3⟩:=hf rfl;have cT:n.A.Has=true->n.A.At<v:=λhh=>by have h1:=(h.acc.lm.has hh).2.1;have h2:n.A.At≠v:=λe=>f2 ⟨hh,e⟩;omega
  refine ⟨hinv,λhh=>⟨rfl,.inl (cT hh)⟩,λy hy hk=> ?_,by simp [b8],λy hy=> ?_⟩
  ·have:y=sC ⟨n.A.Me,v,x⟩:=by simpa [b8] using hy
   subst this;exact ⟨h.uH,rfl,rfl,rfl,cT⟩
  ·have:y=sC ⟨n.A.Me,v,x⟩:=by simpa [b8] using hy
   subst this;exact aeH _
theorem RE {s:ae}{i:Int}{n:ar}{k:Nat}(h:gE s i n k)(hk:k<=1000000){r:ab}(hr:r.Proof.length<=100): ∃ok,nU n s i r=some ((),⟨n.A,n.L,Hd n r ok,n.ir⟩):=by
 have hs:=h.sz;have hl:=h.len;obtain ⟨b,eb,_⟩:=Ri s r (by omega);have hle:=CM (key:=rk) n.eH r.By;refine ⟨decide (n.A.View=r.je)&&decide (kC s r.je=i)&&b,?_⟩;unfold nU Hd;rw [abR h.inc (by omega),au,fp hs];simp only [au,eb];have hg:(if !(qk rk n.eH r.By) then if n.A.View=r.je then if kC s r.je=i then some b else some false else some false else some false:Option Bool)=some (decide ((decide (n.A.View=r.je)&&decide (kC s r.je=i)&&b)=true/\qk rk n.eH r.By=false)):=by cases qk rk n.eH r.By<;>by_cases c1:n.A.View=r.je<;>by_cases c2:kC s r.je=i<;>cases b<;>simp [c1,c2]
 rw [hg,au];by_cases c:(decide (n.A.View=r.je)&&decide (kC s r.je=i)&&b)=true/\qk rk n.eH r.By=false
 ·rw [decide_eq_true c,if_pos rfl,if_pos c,iq (by omega),au,Kf (key:=rk) (by omega)];rfl
 ·rw [decide_eq_false c,if_neg (by simp),if_neg c];rfl
theorem AO {s:ae}{i:Int}{n:ar}{k:Nat}(h:gE s i n k)(hk:k<=1000000){m:al}(hm:xl m): ∃x,ch s i n m=some x/\mR s i n k x:=by
 have hs:=h.sz;obtain ⟨q1,q2,q3⟩:=h.eP.Hs;by_cases k1:m.Kind=1
 ·by_cases c:m.eE=kC s m.View
  ·obtain ⟨ok,p1,p3⟩:=Em n.A m.View m.Value m.fN (λr hr=>by have:=hm.Kw r hr;omega) (by have:=hm.kQ;omega);refine ⟨(⟨(b8 n.A m.View m.Value ok).1,n.L,n.eH,n.ir⟩,nA i n.L.bQ ⟨(b8 n.A m.View m.Value ok).1,n.L,n.eH,n.ir⟩ (if (b8 n.A m.View m.Value ok).2.2 then [sC (b8 n.A m.View m.Value ok).2.1] else [])),?_,(LA h (λh=>(p3 h).1)).told (by split<;>simp) n.L.bQ⟩;unfold ch;rw [if_pos k1,fp hs,au,if_neg (by simp [c]),p1];cases hh:(b8 n.A m.View m.Value ok).2.2 with
   |true=>simp only [au,hh,if_true];rw [if_pos (by simp)];simp only [au];rw [n7 _ _ _ (by simp)];rfl
   |false=>simp only [au,hh,if_false,sh];rw [n7 _ _ _ (by simp)];rfl
  ·refine ⟨(n,nA i n.L.bQ n []),?_,mR.M5 n [] _ (h.mono (by omega)) rfl rfl rfl (by simp) (by simp)⟩;unfold ch;rw [if_pos k1,fp hs,au,if_pos (by simp [c])];simp only [au];rw [n7 _ _ _ (by simp)];rfl
 by_cases k2:m.Kind=2
 ·have p1:=FD h.acc h.acc.Hs m.dv;have a1:=AL h.eP q1 m.dv;obtain ⟨g1,g2,g3,g4⟩:=T8 n.A m.dv;have hr:=GB h.acc m.dv;refine ⟨(⟨(fm n.A m.dv).1,da n.L m.dv,n.eH,n.ir⟩,nA i n.L.bQ ⟨(fm n.A m.dv).1,da n.L m.dv,n.eH,n.ir⟩ (if (fm n.A m.dv).2.2 then [Es i (fm n.A m.dv).2.1] else [])),?_,mR.M5 ⟨(fm n.A m.dv).1,da n.L m.dv,n.eH,n.ir⟩ (if (fm n.A m.dv).2.2 then [Es i (fm n.A m.dv).2.1] else []) _ ⟨hr,by rw [(Ht _ _).1];exact h.CX,by rw [(Ht _ _).2];exact h.uH,yR h.eP _,by rw [GD];exact h.qS,h.inc,h.small,by have:=h.len;simp only;omega⟩ g1 g2 g3 (by split<;>simp) ?_⟩
  ·unfold ch;rw [if_neg k1,if_pos k2,p1];cases hh:(fm n.A m.dv).2.2 with
   |true=>simp only [au,hh,if_true];rw [if_pos (by simp)];simp only [au,a1];rw [n7 _ _ _ (by simp)];rfl
   |false=>simp only [au,hh,if_false,sh,a1];rw [n7 _ _ _ (by simp)];rfl
  ·split
   ·rename_i hh;intro y hy;rw [cM.1 hy,g4 hh];exact ⟨by simp [Es],XF hr,by simp [Es],by simp [Es],by simp [Es]⟩
   ·simp
 by_cases k3:m.Kind=3
 ·have a1:=Er h.eP q2 m.eE m.Proof (by have:=hm.proof;omega);refine ⟨(⟨n.A,jb n.L m.eE m.Proof,n.eH,n.ir⟩,nA i n.L.bQ ⟨n.A,jb n.L m.eE m.Proof,n.eH,n.ir⟩ []),?_,mR.M5 ⟨n.A,jb n.L m.eE m.Proof,n.eH,n.ir⟩ [] _ ⟨h.acc,h.CX,h.uH,FG h.eP _ _,by rw [OZ];exact h.qS,h.inc,h.small,by have:=h.len;simp only;omega⟩ rfl rfl rfl (by simp) (by simp)⟩;unfold ch;rw [if_neg k1,if_neg k2,if_pos k3,a1];simp only [au];rw [n7 _ _ _ (by simp)];rfl
 by_cases k4:m.Kind=4
 ·obtain ⟨ok,a1⟩:=RE h hk hm.r;refine ⟨(⟨n.A,n.L,Hd n m.R ok,n.ir⟩,nA i n.L.bQ ⟨n.A,n.L,Hd n m.R ok,n.ir⟩ []),?_,mR.M5 ⟨n.A,n.L,Hd n m.R ok,n.ir⟩ [] _ (aeD h hm.r ok) rfl rfl rfl (by simp) (by simp)⟩;unfold ch;rw [if_neg k1,if_neg k2,if_neg k3,if_pos k4,a1];simp only [au];rw [n7 _ _ _ (by simp)];rfl
 by_cases k5:m.Kind=5
 ·have a1:=Vr h.eP q3 m.eE m.Value;refine ⟨(⟨n.A,AM n.L m.eE m.Value,n.eH,n.ir⟩,nA i n.L.bQ ⟨n.A,AM n.L m.eE m.Value,n.eH,n.ir⟩ []),?_,mR.M5 ⟨n.A,AM n.L m.eE m.Value,n.eH,n.ir⟩ [] _ ⟨h.acc,h.CX,h.uH,Ry h.eP _ _,by rw [aeE];exact h.qS,h.inc,h.small,by have:=h.len;simp only;omega⟩ rfl rfl rfl (by simp) (by simp)⟩;unfold ch;rw [if_neg k1,if_neg k2,if_neg k3,if_neg k4,if_pos k5,a1];simp only [au];rw [n7 _ _ _ (by simp)];rfl
 ·refine ⟨(n,nA i n.L.bQ n []),?_,mR.M5 n [] _ (h.mono (by omega)) rfl rfl rfl (by simp) (by simp)⟩;unfold ch;rw [if_neg k1,if_neg k2,if_neg k3,if_neg k4,if_neg k5];simp only [au];rw [n7 _ _ _ (by simp)];rfl
theorem yA {s:ae}{i:Int}{n:ar}{k:Nat}(h:gE s i n k)(v:Int):oS s i n v=some (te n v)/\mR s i n k (te n v):=by
 obtain ⟨h0,hi⟩:=RB h v;refine ⟨h0,?_⟩;obtain ⟨g1,g2,g3,g4⟩:=RD n.A v;have Np:=h.acc.Vp.proof.len;unfold te at hi⊢;split at hi<;>rename_i hc
 ·rw [if_pos hc];refine .same hi g1 g2 g3 (by simp) λy hy=> ?_;rw [cM.1 hy];exact ⟨by simp [Lz],by simp [Lz],by simp [Lz],by simp [Lz],by simp only [Lz];omega⟩
 ·rw [if_neg hc];exact .same hi rfl rfl rfl (by simp) (by simp)
theorem AP {s:ae}{i:Int}{n:ar}{k:Nat}(h:gE s i n k)(hk:k<=1000000)(want:List UInt8): ∃x,eB s i n want=some x/\mR s i n k x:=by
 have hs:=h.sz;have Xl:=(dB s).1 hs;have hl:=h.len;have vU:gE s i ⟨n.A,n.L,n.eH,n.A.View⟩ (k+1):=⟨h.acc,h.CX,h.uH,h.eP,h.qS,h.inc,h.small,by simp only;omega⟩
 have FY:mR s i n k (n,[]):= .same (h.mono (by omega)) rfl rfl rfl (by simp) (by simp);by_cases c1:kC s n.A.View=i/\ ¬n.A.View<=n.ir;rotate_left
 ·refine ⟨(n,[]),?_,FY⟩;unfold eB;rw [iN hs,au,fp hs,au];have hg:(if !decide (kC s n.A.View=i) then some true else some (decide (n.A.View<=n.ir)):Option Bool)=some true:=by
   by_cases c:kC s n.A.View=i
   ·have:n.A.View<=n.ir:=Decidable.byContradiction λh=>c1 ⟨c,h⟩;simp [c,this]
   ·simp [c]
  rw [hg,au,if_pos rfl]
 have hg:(if !decide (kC s n.A.View=i) then some true else some (decide (n.A.View<=n.ir)):Option Bool)=some false:=by simp [c1.1,c1.2]
 by_cases c2:(0:Int)<n.A.View;rotate_left
 ·refine ⟨(⟨n.A,n.L,n.eH,n.A.View⟩,[sD i n.A.View want []]),?_,.same vU rfl rfl rfl (by simp) λy hy=>by rw [cM.1 hy];exact ⟨by simp [sD],by simp [sD],by simp [sD],by simp [sD],by simp [sD]⟩⟩;unfold eB;rw [iN hs,au,fp hs,au,hg,au];simp only [sh,if_false,c2,au];rfl
 by_cases c3:(n.eH.length:Int)<2 *s.F+2 *s.T+1
 ·refine ⟨(n,[]),?_,FY⟩;unfold eB;rw [iN hs,au,fp hs,au,hg,au];simp only [sh,if_false,c2,if_true,au,c3,decide_true]
 have hlen:((n.eH.take (2 *s.F+2 *s.T+1).toNat).length:Int)=2 *s.F+2 *s.T+1:=by rw [List.length_take];omega
 have ed:List.drop (Int.toNat 0) (List.take (Int.toNat (2 *s.F+2 *s.T+1)) n.eH)=n.eH.take (2 *s.F+2 *s.T+1).toNat:=by simp
 obtain ⟨r,b1,b2⟩:=El hs _ hlen;refine ⟨(⟨n.A,n.L,n.eH,n.A.View⟩,[sD i n.A.View (if r.2=true then r.1 else want) (n.eH.take (2 *s.F+2 *s.T+1).toNat)]),?_,.same vU rfl rfl rfl (by simp) λy hy=>by rw [cM.1 hy];exact ⟨by simp [sD],by simp [sD],by simp only [sD];omega,λx hx=>h.small x (List.mem_of_mem_take hx),by simp [sD]⟩⟩;unfold eB;rw [iN hs,au,fp hs,au,hg,au];simp only [sh,if_false,c2,if_true,au,c3,decide_false];rw [if_pos ⟨by decide,by omega,by omega⟩,ed,iq (by omega),au,b1,au];cases r.2<;>rfl
theorem Cc {s:ae}{i:Int}{n:ar}{k:Nat}(h:gE s i n k):ng s i n=some (kD s n)/\mR s i n k (kD s n,[]):=by obtain ⟨q1,q3⟩:=O0 h;exact ⟨q1,.same q3 rfl rfl rfl (by simp) (by simp)⟩
end Dn.S
