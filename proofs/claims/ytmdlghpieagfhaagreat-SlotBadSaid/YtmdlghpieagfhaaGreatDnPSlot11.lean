import Derived.Test.YtmdlghpieagfhaaGreatDnPSlot10
/-
  Slots: what a node's act keeps and says. Conditions: none.
-/
set_option linter.unusedVariables false
set_option linter.unusedSimpArgs false
open List renaming mem_singleton→eJ,mem_append→AI
open Bool renaming false_eq_true→sh
open Go Dn
namespace Dn.S
theorem AF.s {m:al}(h:AF m):Vw m:=by have h1:=h.proof;have h2:=h.kZ;have h3:=h.r;exact ⟨by omega,λr hr=>by have:=h.Qw r hr;omega,by omega,by omega⟩
structure nV (s:af) (i:Int) (n:aq) (k:Nat) (x:aq×List al):Prop where
 inv:jq s i x.1 (k+1)
 has:n.A.Has=true->x.1.A.Has=true/\(n.A.At<x.1.A.At\/(n.A.At=x.1.A.At/\n.A.Value=x.1.A.Value))
 says: ∀y∈x.2,y.Kind=2->y.cf.By=i/\x.1.A.Has=true/\y.cf.View=x.1.A.At/\y.cf.Value=x.1.A.Value/\(n.A.Has=true->n.A.At<x.1.A.At)
 out:x.2.length<=10
 short: ∀y∈x.2,AF y
theorem nV.same {s:af}{i:Int} {n n':aq}{k:Nat}{out:List al}(hi:jq s i n' (k+1))(h1:n'.A.Has=n.A.Has)(h2:n'.A.At=n.A.At)(h3:n'.A.Value=n.A.Value)(hl:out.length<=10)(hs: ∀y∈out,y.Kind≠2/\AF y):nV s i n k (n',out):=⟨hi,λh=>⟨by rw [h1];exact h,.inr ⟨h2.symm,h3.symm⟩⟩,λy hy h=>absurd h (hs y hy).1,hl,λy hy=>(hs y hy).2⟩
theorem abT (v:aa):AF (AE v):=⟨by simp [AE],by simp [AE],by simp [AE],by simp [AE]⟩
theorem abU (i:Int)(x:List UInt8):AF (Qx i x):=⟨by simp [Qx],by simp [Qx],by simp [Qx],by simp [Qx]⟩
theorem nV.told {s:af}{i:Int} {n n':aq}{k:Nat}{out:List al}(h:nV s i n k (n',out))(hl:out.length<=5)(V6:Bool):nV s i n k (n',uO i V6 n' out):=by
 refine ⟨h.inv,h.has,?_,Zw hl,?_⟩
 ·unfold uO;split
  ·intro y hy hk;rcases AI.1 hy with hy|hy
   ·exact h.says y hy hk
   ·rw [eJ.1 hy] at hk;exact absurd hk (by simp [Qx])
  ·exact h.says
 ·unfold uO;split
  ·intro y hy;rcases AI.1 hy with hy|hy
   ·exact h.short y hy
   ·rw [eJ.1 hy];exact abU _ _
  ·exact h.short
theorem nV.MC {s:af}{i:Int}{n:aq}{k:Nat} (n':aq)(out:List al)(V6:Bool)(hi:jq s i n' (k+1))(h1:n'.A.Has=n.A.Has)(h2:n'.A.At=n.A.At)(h3:n'.A.Value=n.A.Value)(hl:out.length<=5)(hs: ∀y∈out,y.Kind≠2/\AF y):nV s i n k (n',uO i V6 n' out):=(nV.same hi h1 h2 h3 (by omega) hs).told hl V6
theorem VG {a:ae}(h:iK a):a.Proof.length<=30:=by
 have Vl:=(ei _).1 h.sz;rcases h.jc.proof with e|⟨e,_⟩
 ·rw [e];simp
 ·have:=e.len;omega
theorem SM (a:ae)(v:aa):(iD a v).1.Has=a.Has/\(iD a v).1.At=a.At/\(iD a v).1.Value=a.Value/\((iD a v).2.2=true->(iD a v).2.1=(iD a v).1.Proof):=by
 unfold iD;split
 ·exact ⟨rfl,rfl,rfl,λh=>(by cases h)⟩
 ·split
  ·exact ⟨rfl,rfl,rfl,λh=>(by cases h)⟩
  ·exact ⟨rfl,rfl,rfl,λ_=>rfl⟩
theorem QA (a:ae)(v:Int):(j9 a v).1.Has=a.Has/\(j9 a v).1.At=a.At/\(j9 a v).1.Value=a.Value/\(j9 a v).2.1.Proof.length<=a.Proof.length:=by unfold j9;split<;>exact ⟨rfl,rfl,rfl,by simp⟩
theorem K8 {s:af}{i:Int}{n:aq}{k:Nat}(h:jq s i n k){v:Int}{x:List UInt8}{ok:Bool}(hf:ok=true->TS n.A v x):nV s i n k (⟨(cN n.A v x ok).1,n.L,n.df,n.jy⟩,if (cN n.A v x ok).2.2 then [AE (cN n.A v x ok).2.1] else []):=by
 have hinv:jq s i ⟨(cN n.A v x ok).1,n.L,n.df,n.jy⟩ (k+1):=⟨J9 h.acc hf,by rw [(Kc _ _ _ _).1];exact h.EL,by rw [(Kc _ _ _ _).2];exact h.vV,h.jf,h.wG,h.inc,h.small,by have:=h.len;simp only;omega⟩
 cases ok with
 |false=>exact .same hinv rfl rfl rfl (by simp [cN]) (by simp [cN])
 |true=>
  obtain ⟨f1,f2,f3⟩:=hf rfl;have dO:n.A.Has=true->n.A.At<v:=λhh=>by have h1:=(h.acc.jc.has hh).2.1;have h2:n.A.At≠v:=λe=>f2 ⟨hh,e⟩;omega
  refine ⟨hinv,λhh=>⟨rfl,.inl (dO hh)⟩,λy hy hk=> ?_,by simp [cN],λy hy=> ?_⟩
  ·have:y=AE ⟨n.A.Me,v,x⟩:=by simpa [cN] using hy
   subst this;exact ⟨h.vV,rfl,rfl,rfl,dO⟩
  ·have:y=AE ⟨n.A.Me,v,x⟩:=by simpa [cN] using hy
   subst this;exact abT _
theorem QB {s:af}{i:Int}{n:aq}{k:Nat}(h:jq s i n k)(hk:k<=500){m:al}(hm:AF m): ∃x,dZ s i n m=some x/\nV s i n k x:=by
 have hs:=h.sz;obtain ⟨q1,q2,q3⟩:=h.jf.Z3;by_cases k1:m.Kind=1
 ·by_cases c:m.eQ=pF s m.View
  ·obtain ⟨ok,p1,p2,p3⟩:=So n.A m.View m.Value m.dP (λr hr=>by have:=hm.Qw r hr;omega) (by have:=hm.kZ;omega);refine ⟨(⟨(cN n.A m.View m.Value ok).1,n.L,n.df,n.jy⟩,uO i n.L.cq ⟨(cN n.A m.View m.Value ok).1,n.L,n.df,n.jy⟩ (if (cN n.A m.View m.Value ok).2.2 then [AE (cN n.A m.View m.Value ok).2.1] else [])),?_,(K8 h (λh=>(p3 h).1)).told (by split<;>simp) n.L.cq⟩;unfold dZ;rw [if_pos k1,nP hs,ap,if_neg (by simp [c]),p1];cases hh:(cN n.A m.View m.Value ok).2.2 with
   |true=>simp only [ap,hh,if_true];rw [if_pos (by simp)];simp only [ap];rw [za _ _ _ (by simp)];rfl
   |false=>simp only [ap,hh,if_false,sh];rw [za _ _ _ (by simp)];rfl
  ·refine ⟨(n,uO i n.L.cq n []),?_,nV.MC n [] _ (h.mono (by omega)) rfl rfl rfl (by simp) (by simp)⟩;unfold dZ;rw [if_pos k1,nP hs,ap,if_pos (by simp [c])];simp only [ap];rw [za _ _ _ (by simp)];rfl
 by_cases k2:m.Kind=2
 ·obtain ⟨p1,p2⟩:=TT h.acc h.acc.Z3 m.cf;have a1:=GG h.jf q1 m.cf;obtain ⟨g1,g2,g3,g4⟩:=SM n.A m.cf;have hr:=GD h.acc m.cf;refine ⟨(⟨(iD n.A m.cf).1,ft n.L m.cf,n.df,n.jy⟩,uO i n.L.cq ⟨(iD n.A m.cf).1,ft n.L m.cf,n.df,n.jy⟩ (if (iD n.A m.cf).2.2 then [SH i (iD n.A m.cf).2.1] else [])),?_,nV.MC ⟨(iD n.A m.cf).1,ft n.L m.cf,n.df,n.jy⟩ (if (iD n.A m.cf).2.2 then [SH i (iD n.A m.cf).2.1] else []) _ ⟨hr,by rw [(Hn _ _).1];exact h.EL,by rw [(Hn _ _).2];exact h.vV,y9 h.jf _,by rw [GH];exact h.wG,h.inc,h.small,by have:=h.len;simp only;omega⟩ g1 g2 g3 (by split<;>simp) ?_⟩
  ·unfold dZ;rw [if_neg k1,if_pos k2,p1];cases hh:(iD n.A m.cf).2.2 with
   |true=>simp only [ap,hh,if_true];rw [if_pos (by simp)];simp only [ap,a1];rw [za _ _ _ (by simp)];rfl
   |false=>simp only [ap,hh,if_false,sh,a1];rw [za _ _ _ (by simp)];rfl
  ·split
   ·rename_i hh;intro y hy;rw [eJ.1 hy,g4 hh];exact ⟨by simp [SH],VG hr,by simp [SH],by simp [SH],by simp [SH]⟩
   ·simp
 by_cases k3:m.Kind=3
 ·have a1:=Ob h.jf q2 m.eQ m.Proof (by have:=hm.proof;omega);refine ⟨(⟨n.A,ln n.L m.eQ m.Proof,n.df,n.jy⟩,uO i n.L.cq ⟨n.A,ln n.L m.eQ m.Proof,n.df,n.jy⟩ []),?_,nV.MC ⟨n.A,ln n.L m.eQ m.Proof,n.df,n.jy⟩ [] _ ⟨h.acc,h.EL,h.vV,FN h.jf _ _,by rw [Oe];exact h.wG,h.inc,h.small,by have:=h.len;simp only;omega⟩ rfl rfl rfl (by simp) (by simp)⟩;unfold dZ;rw [if_neg k1,if_neg k2,if_pos k3,a1];simp only [ap];rw [za _ _ _ (by simp)];rfl
 by_cases k4:m.Kind=4
 ·obtain ⟨ok,a1,a2⟩:=get_eq h hk hm.r;refine ⟨(⟨n.A,n.L,Od n m.R ok,n.jy⟩,uO i n.L.cq ⟨n.A,n.L,Od n m.R ok,n.jy⟩ []),?_,nV.MC ⟨n.A,n.L,Od n m.R ok,n.jy⟩ [] _ (abP h hm.r ok) rfl rfl rfl (by simp) (by simp)⟩;unfold dZ;rw [if_neg k1,if_neg k2,if_neg k3,if_pos k4,a1];simp only [ap];rw [za _ _ _ (by simp)];rfl
 by_cases k5:m.Kind=5
 ·have a1:=abN h.jf q3 m.eQ m.Value;refine ⟨(⟨n.A,EK n.L m.eQ m.Value,n.df,n.jy⟩,uO i n.L.cq ⟨n.A,EK n.L m.eQ m.Value,n.df,n.jy⟩ []),?_,nV.MC ⟨n.A,EK n.L m.eQ m.Value,n.df,n.jy⟩ [] _ ⟨h.acc,h.EL,h.vV,Qv h.jf _ _,by rw [abQ];exact h.wG,h.inc,h.small,by have:=h.len;simp only;omega⟩ rfl rfl rfl (by simp) (by simp)⟩;unfold dZ;rw [if_neg k1,if_neg k2,if_neg k3,if_neg k4,if_pos k5,a1];simp only [ap];rw [za _ _ _ (by simp)];rfl
 ·refine ⟨(n,uO i n.L.cq n []),?_,nV.MC n [] _ (h.mono (by omega)) rfl rfl rfl (by simp) (by simp)⟩;unfold dZ;rw [if_neg k1,if_neg k2,if_neg k3,if_neg k4,if_neg k5];simp only [ap];rw [za _ _ _ (by simp)];rfl
theorem Og {s:af}{i:Int}{n:aq}{k:Nat}(h:jq s i n k)(v:Int):pk s i n v=some (tl n v)/\nV s i n k (tl n v):=by
 have h0:=Vx h v;refine ⟨h0.prog,?_⟩;have hi:=h0.inv;obtain ⟨g1,g2,g3,g4⟩:=QA n.A v;have MP:=h.acc.GC.proof.len;unfold tl at hi⊢;split at hi<;>rename_i hc
 ·rw [if_pos hc];refine .same hi g1 g2 g3 (by simp) λy hy=> ?_;rw [eJ.1 hy];exact ⟨by simp [K6],by simp [K6],by simp [K6],by simp [K6],by simp only [K6];omega⟩
 ·rw [if_neg hc];exact .same hi rfl rfl rfl (by simp) (by simp)
theorem QC {s:af}{i:Int}{n:aq}{k:Nat}(h:jq s i n k)(hk:k<=1000)(want:List UInt8): ∃x,iU s i n want=some x/\nV s i n k x:=by
 have hs:=h.sz;have Vl:=(ei s).1 hs;have hl:=h.len;have zf:jq s i ⟨n.A,n.L,n.df,n.A.View⟩ (k+1):=⟨h.acc,h.EL,h.vV,h.jf,h.wG,h.inc,h.small,by simp only;omega⟩
 have VV:nV s i n k (n,[]):= .same (h.mono (by omega)) rfl rfl rfl (by simp) (by simp);by_cases c1:pF s n.A.View=i/\ ¬n.A.View<=n.jy;rotate_left
 ·refine ⟨(n,[]),?_,VV⟩;unfold iU;rw [pD hs,ap,nP hs,ap];have hg:(if !decide (pF s n.A.View=i) then some true else some (decide (n.A.View<=n.jy)):Option Bool)=some true:=by
   by_cases c:pF s n.A.View=i
   ·have:n.A.View<=n.jy:=Decidable.byContradiction λh=>c1 ⟨c,h⟩;simp [c,this]
   ·simp [c]
  rw [hg,ap,if_pos rfl]
 have hg:(if !decide (pF s n.A.View=i) then some true else some (decide (n.A.View<=n.jy)):Option Bool)=some false:=by simp [c1.1,c1.2]
 by_cases c2:(0:Int)<n.A.View;rotate_left
 ·refine ⟨(⟨n.A,n.L,n.df,n.A.View⟩,[u9 i n.A.View want []]),?_,.same zf rfl rfl rfl (by simp) λy hy=>by rw [eJ.1 hy];exact ⟨by simp [u9],by simp [u9],by simp [u9],by simp [u9],by simp [u9]⟩⟩;unfold iU;rw [pD hs,ap,nP hs,ap,hg,ap];simp only [sh,if_false,c2,ap];rfl
 by_cases c3:(n.df.length:Int)<2 *s.F+2 *s.T+1
 ·refine ⟨(n,[]),?_,VV⟩;unfold iU;rw [pD hs,ap,nP hs,ap,hg,ap];simp only [sh,if_false,c2,if_true,ap,c3,decide_true]
 have hlen:((n.df.take (2 *s.F+2 *s.T+1).toNat).length:Int)=2 *s.F+2 *s.T+1:=by rw [List.length_take];omega
 have ed:List.drop (Int.toNat 0) (List.take (Int.toNat (2 *s.F+2 *s.T+1)) n.df)=n.df.take (2 *s.F+2 *s.T+1).toNat:=by simp
 obtain ⟨r,b1,b2⟩:=Qj hs _ hlen;refine ⟨(⟨n.A,n.L,n.df,n.A.View⟩,[u9 i n.A.View (if r.2=true then r.1 else want) (n.df.take (2 *s.F+2 *s.T+1).toNat)]),?_,.same zf rfl rfl rfl (by simp) λy hy=>by rw [eJ.1 hy];exact ⟨by simp [u9],by simp [u9],by simp only [u9];omega,λx hx=>h.small x (List.mem_of_mem_take hx),by simp [u9]⟩⟩;unfold iU;rw [pD hs,ap,nP hs,ap,hg,ap];simp only [sh,if_false,c2,if_true,ap,c3,decide_false];rw [if_pos ⟨by decide,by omega,by omega⟩,ed,nL (by omega),ap,b1,ap];cases r.2<;>rfl
theorem K9 {s:af}{i:Int}{n:aq}{k:Nat}(h:jq s i n k):nz s i n=some (qB s n)/\nV s i n k (qB s n,[]):=by obtain ⟨q1,_,q3⟩:=SI h;exact ⟨q1,.same q3 rfl rfl rfl (by simp) (by simp)⟩
end Dn.S
