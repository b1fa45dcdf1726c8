import Derived.Test.YtmdlghpieagfhaaGreatDnPAgree5
/- What a node that hears, or leads, adds; slots. Conditions: none. -/
set_option linter.unusedVariables false
set_option linter.unusedSimpArgs false
open Bool renaming false_eq_true→cV
open List renaming mem_singleton→sh,mem_append→AI
open Option.some renaming inj→AT
open Go Dn
namespace Dn.S
theorem V6 {F T:Nat}{bad:List Bool}{g:Gh}{s:ae}{i:Int}{n:ao}{k:Nat}(hF:s.F=F)(hT:s.T=T)(hn:(bad.length:Int)=kz s)(h:dP s i n k)(hk:k<=1000000)(hO:tD F T bad g)(hg:sr bad g i n){m:ai}(hm:qq m)(hmg:L8 bad g m): ∃x,bq s i n m=some x/\yX F T bad g i x:=by
 have hs:=h.sz;obtain ⟨q1,q2,q3⟩:=h.dU.E4;have B3:yX F T bad g i (n,lG i n.L.bw n []):=Py (l:=n.L) hO hg hg.dU _;by_cases k1:m.Kind=1
 ·by_cases c:m.cN=dG s m.View
  ·obtain ⟨ok,p1,p3⟩:=yQ n.A m.View m.Value m.fC (λr hr=>by have:=hm.G6 r hr;omega) (by have:=hm.gJ;omega);have hA:=Yj hF hT hn h hO hg (v:=m.View) (x:=m.Value) (gJ:=m.fC) (ok:=ok) (λr hr=>by have:=hm.G6 r hr;omega) (by have:=hm.gJ;omega) (hmg.prop k1) p3 n.L.bw;refine ⟨_,?_,hA⟩;unfold bq;rw [if_pos k1,dI hs,au,if_neg (by simp [c]),p1];cases hh:(bU n.A m.View m.Value ok).2.2 with
   |true=>simp only [au,hh,if_true];rw [if_pos (by simp)];simp only [au];rw [jY _ _ _ (by simp)];rfl
   |false=>simp only [au,hh,if_false,cV];rw [jY _ _ _ (by simp)];rfl
  ·refine ⟨_,?_,B3⟩;unfold bq;rw [if_pos k1,dI hs,au,if_pos (by simp [c])];simp only [au];rw [jY _ _ _ (by simp)];rfl
 by_cases k2:m.Kind=2
 ·have p1:=BU h.acc h.acc.E4 m.bM;have a1:=wb h.dU q1 m.bM;refine ⟨_,?_,ajs hF hT hn h hO hg (hmg.UG k2) n.L.bw⟩;unfold bq;rw [if_neg k1,if_pos k2,p1];cases hh:(dp n.A m.bM).2.2 with
  |true=>simp only [au,hh,if_true];rw [if_pos (by simp)];simp only [au,a1];rw [jY _ _ _ (by simp)];rfl
  |false=>simp only [au,hh,if_false,cV,a1];rw [jY _ _ _ (by simp)];rfl
 by_cases k3:m.Kind=3
 ·have a1:=yS h.dU q2 m.cN m.Proof (by have:=hm.proof;omega);refine ⟨_,?_,Py hO hg (Sc hF hT hn h.dU h.qp (hg.dU (F:=F) (T:=T)) (hmg.sL k3).2) n.L.bw⟩;unfold bq;rw [if_neg k1,if_neg k2,if_pos k3,a1];simp only [au];rw [jY _ _ _ (by simp)];rfl
 by_cases k4:m.Kind=4
 ·obtain ⟨ok,a1⟩:=R8 h hk hm.r;refine ⟨_,?_,anX hO hg (hmg.Ws k4) ok n.L.bw⟩;unfold bq;rw [if_neg k1,if_neg k2,if_neg k3,if_pos k4,a1];simp only [au];rw [jY _ _ _ (by simp)];rfl
 by_cases k5:m.Kind=5
 ·have a1:=Pt h.dU q3 m.cN m.Value;refine ⟨_,?_,Py hO hg (ajr hF hO.said.E4 hn h.dU h.qp (hg.dU (F:=F) (T:=T)) (hmg.told k5)) n.L.bw⟩;unfold bq;rw [if_neg k1,if_neg k2,if_neg k3,if_neg k4,if_pos k5,a1];simp only [au];rw [jY _ _ _ (by simp)];rfl
 ·refine ⟨_,?_,B3⟩;unfold bq;rw [if_neg k1,if_neg k2,if_neg k3,if_neg k4,if_neg k5];simp only [au];rw [jY _ _ _ (by simp)];rfl
theorem V7 {F T:Nat}{bad:List Bool}{g:Gh}{s:ae}{i:Int}{n:ao}{k:Nat}(h:dP s i n k)(hk:k<=1000000)(hO:tD F T bad g)(hg:sr bad g i n)(want:List UInt8): ∃x,cF s i n want=some x/\yX F T bad g i x:=by
 have hs:=h.sz;have Nj:=(b7 s).1 hs;have hl:=h.len;have B3:yX F T bad g i (n,[]):=UR (led:=n.et) hO hg (by simp);by_cases c1:dG s n.A.View=i/\ ¬n.A.View<=n.et;rotate_left
 ·refine ⟨(n,[]),?_,B3⟩;unfold cF;rw [fX hs,au,dI hs,au];have hg:(if !decide (dG s n.A.View=i) then some true else some (decide (n.A.View<=n.et)):Option Bool)=some true:=by
   by_cases c:dG s n.A.View=i
   ·have:n.A.View<=n.et:=Decidable.byContradiction λh=>c1 ⟨c,h⟩;simp [c,this]
   ·simp [c]
  rw [hg,au,if_pos rfl]
 have hgd:(if !decide (dG s n.A.View=i) then some true else some (decide (n.A.View<=n.et)):Option Bool)=some false:=by simp [c1.1,c1.2]
 by_cases c2:(0:Int)<n.A.View;rotate_left
 ·refine ⟨(⟨n.A,n.L,n.dq,n.A.View⟩,[mA i n.A.View want []]),?_,UR hO hg λy hy=>by rw [sh.1 hy];exact ⟨rfl,by simp [mA]⟩⟩;unfold cF;rw [fX hs,au,dI hs,au,hgd,au];simp only [cV,if_false,c2,au];rfl
 by_cases c3:(n.dq.length:Int)<2 *s.F+2 *s.T+1
 ·refine ⟨(n,[]),?_,B3⟩;unfold cF;rw [fX hs,au,dI hs,au,hgd,au];simp only [cV,if_false,c2,if_true,au,c3,decide_true]
 have hlen:((n.dq.take (2 *s.F+2 *s.T+1).toNat).length:Int)=2 *s.F+2 *s.T+1:=by rw [List.length_take];omega
 have ed:List.drop (Int.toNat 0) (List.take (Int.toNat (2 *s.F+2 *s.T+1)) n.dq)=n.dq.take (2 *s.F+2 *s.T+1).toNat:=by simp
 obtain ⟨r,b1,b2⟩:=A9 hs _ hlen;refine ⟨(⟨n.A,n.L,n.dq,n.A.View⟩,[mA i n.A.View (if r.2=true then r.1 else want) (n.dq.take (2 *s.F+2 *s.T+1).toNat)]),?_,UR hO hg λy hy=>by rw [sh.1 hy];exact ⟨rfl,λr hr=>List.mem_of_mem_take hr⟩⟩;unfold cF;rw [fX hs,au,dI hs,au,hgd,au];simp only [cV,if_false,c2,if_true,au,c3,decide_false];rw [if_pos ⟨by decide,by omega,by omega⟩,ed,gO (by omega),au,b1,au];cases r.2<;>rfl
structure qt (F T:Nat) (bad:List Bool) (g:Gh) (c:aj):Prop where
 ok:tD F T bad g
 node: ∀(i:Nat) n,bad[i]? =some false->c.N[i]? =some n->sr bad g (i:Int) n
 lI: ∀m∈c.aC,L8 bad g m
theorem qt.put {F T:Nat}{bad:List Bool}{g:Gh}{c:aj}(h:qt F T bad g c){i:Nat}(hi:i<c.N.length){x:ao×List ai}(hx:yX F T bad g (i:Int) x): ∃g',g.le g'/\qt F T bad g' (kl c i x.1 x.2):=by
 obtain ⟨g',h1,h2,h3,h4,h5⟩:=hx;refine ⟨g',h1,h3,λj n hb hn=> ?_,λm hm=> ?_⟩
 ·have hn:(c.N.set i x.1)[j]? =some n:=hn;by_cases vF:j=i
  ·subst vF;rw [List.getElem?_set_self hi] at hn;obtain rfl:=AT hn;exact h4
  ·rw [List.getElem?_set_ne (λe=>vF e.symm)] at hn;exact (h.node j n hb hn).mono h1 h2 (by omega)
 ·have hm:m∈c.aC++x.2.take (400-c.aC.length):=hm;rcases AI.1 hm with hm|hm
  ·exact (h.lI m hm).mono h1
  ·exact h5 m (EW hm)
theorem qt.say {F T:Nat}{bad:List Bool}{g:Gh}{c:aj}(h:qt F T bad g c){m:ai}(hm:L8 bad g m):qt F T bad g (KZ c [m]):=by
 refine ⟨h.ok,h.node,λy hy=> ?_⟩;have hy:y∈c.aC++[m].take (400-c.aC.length):=hy;rcases AI.1 hy with hy|hy
 ·exact h.lI y hy
 ·rw [sh.1 (EW hy)];exact hm
theorem qt.one {F T:Nat}{bad:List Bool}{g:Gh}{c:aj}(h:qt F T bad g c){x y:List UInt8}(hx:g.L x)(hy:g.L y):x=y:=by obtain ⟨v,hv⟩:=h.ok.yW x hx;obtain ⟨w,hw⟩:=h.ok.yW y hy;exact agree h.ok.said hv hw
def noG:Gh:=⟨λ_=>False,λ_=>False,λ_=>False,λ_=>False⟩
theorem anY {F T:Nat}{s:ae}(hF:s.F=F)(hT:s.T=T)(hs:cC s){bad:List Bool}{want:List (List UInt8)}(hn:(bad.length:Int)=kz s)(hf:bad.countP id<=F):qt F T bad noG (tC s bad want):=by
 refine ⟨⟨⟨hf,by unfold kz at hn;omega,λ_ _ h=>h.elim,λ_ h=>h.elim,λ_ _ h=>h.elim,λ_ h=>h.elim,λ_ _ h=>h.elim,λ_ h=>h.elim,λ_ h=>h.elim⟩,λ_ h=>h.elim⟩,λi n hb h=> ?_,by simp [tC]⟩;obtain ⟨hi,he⟩:=List.getElem?_eq_some_iff.1 h;have:n=rc s (i:Int):=by rw [<-he];simp [tC]
 rw [this];exact afs hs (λ_ h=>h) (λ_ h=>h) (λ_ h=>h)
end Dn.S
