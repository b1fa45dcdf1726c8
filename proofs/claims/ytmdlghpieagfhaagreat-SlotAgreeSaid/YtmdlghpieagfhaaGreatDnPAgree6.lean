import Derived.Test.YtmdlghpieagfhaaGreatDnPAgree5
/-
  What a node that hears, or leads, adds; slots. Conditions: none.
-/
set_option linter.unusedVariables false
set_option linter.unusedSimpArgs false
open Bool renaming false_eq_true→cM
open List renaming mem_singleton→sh,mem_append→AI
open Option.some renaming inj→AT
open Go Dn
namespace Dn.S
theorem VA {F T:Nat}{bad:List Bool}{g:Gh}{s:ae}{i:Int}{n:ar}{k:Nat}(hF:s.F=F)(hT:s.T=T)(hn:(bad.length:Int)=mS s)(h:gE s i n k)(hk:k<=1000000)(hO:tj F T bad g)(hg:sa bad g i n){m:al}(hm:xl m)(hmg:LB bad g m): ∃x,ch s i n m=some x/\xn F T bad g i x:=by
 have hs:=h.sz;obtain ⟨q1,q2,q3⟩:=h.eP.Hs;have FY:xn F T bad g i (n,nA i n.L.bQ n []):=O3 (l:=n.L) hO hg hg.eP _;by_cases k1:m.Kind=1
 ·by_cases c:m.eE=kC s m.View
  ·obtain ⟨ok,p1,p3⟩:=Em n.A m.View m.Value m.fN (λr hr=>by have:=hm.Kw r hr;omega) (by have:=hm.kQ;omega);have hA:=XJ hF hT hn h hO hg (v:=m.View) (x:=m.Value) (kQ:=m.fN) (ok:=ok) (λr hr=>by have:=hm.Kw r hr;omega) (by have:=hm.kQ;omega) (hmg.prop k1) p3 n.L.bQ;refine ⟨_,?_,hA⟩;unfold ch;rw [if_pos k1,fp hs,au,if_neg (by simp [c]),p1];cases hh:(b8 n.A m.View m.Value ok).2.2 with
   |true=>simp only [au,hh,if_true];rw [if_pos (by simp)];simp only [au];rw [n7 _ _ _ (by simp)];rfl
   |false=>simp only [au,hh,if_false,cM];rw [n7 _ _ _ (by simp)];rfl
  ·refine ⟨_,?_,FY⟩;unfold ch;rw [if_pos k1,fp hs,au,if_pos (by simp [c])];simp only [au];rw [n7 _ _ _ (by simp)];rfl
 by_cases k2:m.Kind=2
 ·have p1:=FD h.acc h.acc.Hs m.dv;have a1:=AL h.eP q1 m.dv;refine ⟨_,?_,aiG hF hT hn h hO hg (hmg.aeF k2) n.L.bQ⟩;unfold ch;rw [if_neg k1,if_pos k2,p1];cases hh:(fm n.A m.dv).2.2 with
  |true=>simp only [au,hh,if_true];rw [if_pos (by simp)];simp only [au,a1];rw [n7 _ _ _ (by simp)];rfl
  |false=>simp only [au,hh,if_false,cM,a1];rw [n7 _ _ _ (by simp)];rfl
 by_cases k3:m.Kind=3
 ·have a1:=Er h.eP q2 m.eE m.Proof (by have:=hm.proof;omega);refine ⟨_,?_,O3 hO hg (RJ hF hT hn h.eP h.qS (hg.eP (F:=F) (T:=T)) (hmg.zk k3).2) n.L.bQ⟩;unfold ch;rw [if_neg k1,if_neg k2,if_pos k3,a1];simp only [au];rw [n7 _ _ _ (by simp)];rfl
 by_cases k4:m.Kind=4
 ·obtain ⟨ok,a1⟩:=RE h hk hm.r;refine ⟨_,?_,ana hO hg (hmg.rep k4) ok n.L.bQ⟩;unfold ch;rw [if_neg k1,if_neg k2,if_neg k3,if_pos k4,a1];simp only [au];rw [n7 _ _ _ (by simp)];rfl
 by_cases k5:m.Kind=5
 ·have a1:=Vr h.eP q3 m.eE m.Value;refine ⟨_,?_,O3 hO hg (aiF hF hO.said.Hs hn h.eP h.qS (hg.eP (F:=F) (T:=T)) (hmg.told k5)) n.L.bQ⟩;unfold ch;rw [if_neg k1,if_neg k2,if_neg k3,if_neg k4,if_pos k5,a1];simp only [au];rw [n7 _ _ _ (by simp)];rfl
 ·refine ⟨_,?_,FY⟩;unfold ch;rw [if_neg k1,if_neg k2,if_neg k3,if_neg k4,if_neg k5];simp only [au];rw [n7 _ _ _ (by simp)];rfl
theorem VB {F T:Nat}{bad:List Bool}{g:Gh}{s:ae}{i:Int}{n:ar}{k:Nat}(h:gE s i n k)(hk:k<=1000000)(hO:tj F T bad g)(hg:sa bad g i n)(want:List UInt8): ∃x,eB s i n want=some x/\xn F T bad g i x:=by
 have hs:=h.sz;have Xl:=(dB s).1 hs;have hl:=h.len;have FY:xn F T bad g i (n,[]):=Uh (led:=n.ir) hO hg (by simp);by_cases c1:kC s n.A.View=i/\ ¬n.A.View<=n.ir;rotate_left
 ·refine ⟨(n,[]),?_,FY⟩;unfold eB;rw [iN hs,au,fp hs,au];have hg:(if !decide (kC s n.A.View=i) then some true else some (decide (n.A.View<=n.ir)):Option Bool)=some true:=by
   by_cases c:kC s n.A.View=i
   ·have:n.A.View<=n.ir:=Decidable.byContradiction λh=>c1 ⟨c,h⟩;simp [c,this]
   ·simp [c]
  rw [hg,au,if_pos rfl]
 have hgd:(if !decide (kC s n.A.View=i) then some true else some (decide (n.A.View<=n.ir)):Option Bool)=some false:=by simp [c1.1,c1.2]
 by_cases c2:(0:Int)<n.A.View;rotate_left
 ·refine ⟨(⟨n.A,n.L,n.eH,n.A.View⟩,[sD i n.A.View want []]),?_,Uh hO hg λy hy=>by rw [sh.1 hy];exact ⟨rfl,by simp [sD]⟩⟩;unfold eB;rw [iN hs,au,fp hs,au,hgd,au];simp only [cM,if_false,c2,au];rfl
 by_cases c3:(n.eH.length:Int)<2 *s.F+2 *s.T+1
 ·refine ⟨(n,[]),?_,FY⟩;unfold eB;rw [iN hs,au,fp hs,au,hgd,au];simp only [cM,if_false,c2,if_true,au,c3,decide_true]
 have hlen:((n.eH.take (2 *s.F+2 *s.T+1).toNat).length:Int)=2 *s.F+2 *s.T+1:=by rw [List.length_take];omega
 have ed:List.drop (Int.toNat 0) (List.take (Int.toNat (2 *s.F+2 *s.T+1)) n.eH)=n.eH.take (2 *s.F+2 *s.T+1).toNat:=by simp
 obtain ⟨r,b1,b2⟩:=El hs _ hlen;refine ⟨(⟨n.A,n.L,n.eH,n.A.View⟩,[sD i n.A.View (if r.2=true then r.1 else want) (n.eH.take (2 *s.F+2 *s.T+1).toNat)]),?_,Uh hO hg λy hy=>by rw [sh.1 hy];exact ⟨rfl,λr hr=>List.mem_of_mem_take hr⟩⟩;unfold eB;rw [iN hs,au,fp hs,au,hgd,au];simp only [cM,if_false,c2,if_true,au,c3,decide_false];rw [if_pos ⟨by decide,by omega,by omega⟩,ed,iq (by omega),au,b1,au];cases r.2<;>rfl
structure nB (F T:Nat) (bad:List Bool) (g:Gh) (c:aj):Prop where
 ok:tj F T bad g
 node: ∀(i:Nat) n,bad[i]? =some false->c.N[i]? =some n->sa bad g (i:Int) n
 r9: ∀m∈c.aV,LB bad g m
theorem nB.put {F T:Nat}{bad:List Bool}{g:Gh}{c:aj}(h:nB F T bad g c){i:Nat}(hi:i<c.N.length){x:ar×List al}(hx:xn F T bad g (i:Int) x): ∃g',g.le g'/\nB F T bad g' (BJ c i x.1 x.2):=by
 obtain ⟨g',h1,h2,h3,h4,h5⟩:=hx;refine ⟨g',h1,h3,λj n hb hn=> ?_,λm hm=> ?_⟩
 ·have hn:(c.N.set i x.1)[j]? =some n:=hn;by_cases Ma:j=i
  ·subst Ma;rw [List.getElem?_set_self hi] at hn;obtain rfl:=AT hn;exact h4
  ·rw [List.getElem?_set_ne (λe=>Ma e.symm)] at hn;exact (h.node j n hb hn).mono h1 h2 (by omega)
 ·have hm:m∈c.aV++x.2.take (400-c.aV.length):=hm;rcases AI.1 hm with hm|hm
  ·exact (h.r9 m hm).mono h1
  ·exact h5 m (Ex hm)
theorem nB.say {F T:Nat}{bad:List Bool}{g:Gh}{c:aj}(h:nB F T bad g c){m:al}(hm:LB bad g m):nB F T bad g (M7 c [m]):=by
 refine ⟨h.ok,h.node,λy hy=> ?_⟩;have hy:y∈c.aV++[m].take (400-c.aV.length):=hy;rcases AI.1 hy with hy|hy
 ·exact h.r9 y hy
 ·rw [sh.1 (Ex hy)];exact hm
theorem nB.one {F T:Nat}{bad:List Bool}{g:Gh}{c:aj}(h:nB F T bad g c){x y:List UInt8}(hx:g.L x)(hy:g.L y):x=y:=by obtain ⟨v,hv⟩:=h.ok.yB x hx;obtain ⟨w,hw⟩:=h.ok.yB y hy;exact agree h.ok.said hv hw
def noG:Gh:=⟨λ_=>False,λ_=>False,λ_=>False,λ_=>False⟩
theorem anb {F T:Nat}{s:ae}(hF:s.F=F)(hT:s.T=T)(hs:cC s){bad:List Bool}{want:List (List UInt8)}(hn:(bad.length:Int)=mS s)(hf:bad.countP id<=F):nB F T bad noG (uU s bad want):=by
 refine ⟨⟨⟨hf,by unfold mS at hn;omega,λ_ _ h=>h.elim,λ_ h=>h.elim,λ_ _ h=>h.elim,λ_ h=>h.elim,λ_ _ h=>h.elim,λ_ h=>h.elim,λ_ h=>h.elim⟩,λ_ h=>h.elim⟩,λi n hb h=> ?_,by simp [uU]⟩;obtain ⟨hi,he⟩:=List.getElem?_eq_some_iff.1 h;have:n=sE s (i:Int):=by rw [<-he];simp [uU]
 rw [this];exact aeP hs (λ_ h=>h) (λ_ h=>h) (λ_ h=>h)
end Dn.S
