import Derived.Test.YtmdlghpieagfhaaGreatDnPCalm
import Derived.Test.YtmdlghpieagfhaaGreatDnC
/- Calm ends, and keeps what good ones said. Conditions: none. -/
set_option linter.unusedVariables false
set_option linter.unusedSimpArgs false
open List renaming getElem?_eq_getElem→cV,getElem?_eq_some_iff→sh
open Option.some renaming inj→AI
open Go Dn
namespace Dn.S
theorem US {σ:Type}{step:Nat->σ->Option σ}(I:Nat->σ->Prop)(bad:List Bool)(hg: ∀i s,bad[i]? =some false->I i s->aK (step i s) (I (i+1)))(hb: ∀i s,bad[i]? =some true->I i s->I (i+1) s){s:σ}(h:I 0 s):aK (iO step bad 0 s) (I bad.length):=by
 suffices hs: ∀(l:List Bool) (i:Nat) (s:σ),(∀j,l[j]? =bad[i+j]?)->i+l.length=bad.length->I i s->aK (iO step l i s) (I bad.length) from hs bad 0 s (λj=>by rw [Nat.zero_add]) (by omega) h
 intro l;induction l with
 |nil=>
  intro i s _ he hI;have:i=bad.length:=by simpa using he
  subst this;exact .mk hI
 |cons b r ih=>
  intro i s hl he hI;have h0:=hl 0;simp only [List.getElem?_cons_zero,Nat.add_zero] at h0;have hr: ∀j,r[j]? =bad[i+1+j]? :=λj=>by have:=hl (j+1);rw [List.getElem?_cons_succ] at this;rw [this];congr 1;omega
  have he':i+1+r.length=bad.length:=by simp only [List.length_cons] at he;omega
  simp only [iO];cases b with
  |true=>exact ih (i+1) s hr he' (hb i s h0.symm hI)
  |false=>obtain ⟨s',e,h'⟩:=hg i s h0.symm hI;simp only [Bool.false_eq_true,if_false,e];exact ih (i+1) s' hr he' h'
theorem afx {s:ae}{bad:List Bool}{want:List (List UInt8)}{c:aj}{k:Nat}(h:Inv s bad want c k):aK (iO (λi v=>Dn.bd (jQ (i:Int) v c) λr=>some r.2) bad 0 (0:Int)) λv=>0<=v/\v<=100001/\(∀w:Int,0<=w->(∀(j:Nat) n,bad[j]? =some false->c.N[j]? =some n->n.A.View+1<=w)->v<=w)/\ ∀(j:Nat) n,bad[j]? =some false->c.N[j]? =some n->n.A.View<v:=by
 refine (US (λi v=>0<=v/\v<=100001/\(∀w:Int,0<=w->(∀(j:Nat) n,bad[j]? =some false->c.N[j]? =some n->n.A.View+1<=w)->v<=w)/\ ∀(j:Nat) n,j<i->bad[j]? =some false->c.N[j]? =some n->n.A.View<v) bad ?_ ?_ ⟨by omega,by omega,λw h0 _=>h0,λj n hj=>by omega⟩).imp ?_
 ·rintro i v hb ⟨h0,h1,h2,h3⟩;have hi:=rK h hb;have hn:=h.nodes i _ (cV hi);have v0:=hn.acc.jB.v0;have v1:=hn.acc.jB.v1;unfold jQ;rw [bB hi,au,wrap64 (by omega) (by omega)];refine .mk ?_;have him:imax v (c.N[i].A.View+1)=if v<c.N[i].A.View+1 then c.N[i].A.View+1 else v:=by unfold imax;by_cases q:c.N[i].A.View+1>v<;>simp [q]
  simp only [him];refine ⟨by split<;>omega,by split<;>omega,λw hw0 hw=> ?_,λj n hj Dr zO=> ?_⟩
  ·have q1:=hw i _ hb (cV hi);have q2:=h2 w hw0 hw;split<;>omega
  ·by_cases vF:j=i
   ·subst vF;rw [cV hi] at zO;obtain rfl:=AI zO;split<;>omega
   ·have:=h3 j n (by omega) Dr zO;split<;>omega
 ·rintro i v hb ⟨h0,h1,h2,h3⟩;refine ⟨h0,h1,h2,λj n hj Dr zO=> ?_⟩;by_cases vF:j=i
  ·subst vF;rw [hb] at Dr;cases Dr
  ·exact h3 j n (by omega) Dr zO
 ·rintro v ⟨h0,h1,h2,h3⟩;exact ⟨h0,h1,h2,λj n hb hn=>h3 j n (sh.1 hb).1 hb hn⟩
theorem Sf {F:Nat}{bad:List Bool}(h:bad.countP id<=F)(hF:F<bad.length): ∃j:Nat,bad[j]? =some false:=by
 apply Classical.byContradiction;intro di;have ku: ∀b∈bad,id b=true:=by
  intro b hb;obtain ⟨j,hj,rfl⟩:=List.getElem_of_mem hb;cases hq:bad[j] with
  |true=>rfl
  |false=>exact absurd ⟨j,by rw [cV hj,hq]⟩ di
 have:=List.countP_eq_length.2 ku;omega
theorem ajw {c:aj}(hs:cC c.S)(hn:(c.bY.length:Int)=kz c.S){j:Nat}(hj:c.bY[j]? =some false){v:Int}(h0:0<=v)(h1:v<=1000000): aK (Loop (kg c) v) λv'=>v<=v'/\v'<v+kz c.S/\c.bY[(dG c.S v').toNat]? =some false/\0<=dG c.S v':=by
 have hN:0<kz c.S:=by have:=(b7 c.S).1 hs;unfold kz;omega
 have an1:kz c.S<=100:=by have:=(b7 c.S).1 hs;unfold kz;omega
 have Gi:=(sh.1 hj).1;obtain ⟨w,hw1,hw2,hw3⟩: ∃w:Int,v<=w/\w<v+kz c.S/\w%kz c.S=(j:Int):=by
  refine ⟨v+((j:Int)-v)%kz c.S,?_,?_,?_⟩
  ·have:=Int.emod_nonneg ((j:Int)-v) (by omega:kz c.S≠0);omega
  ·have:=Int.emod_lt_of_pos ((j:Int)-v) hN;omega
  ·rw [Int.add_emod,Int.emod_emod,<-Int.add_emod];rw [show v+((j:Int)-v)=(j:Int) by omega];exact Int.emod_eq_of_lt (by omega) (by omega)
 have acJ: ∀x:Int,0<=x->dG c.S x=x%kz c.S:=by intro x hx;unfold dG imax;rw [if_neg (by omega)];exact Int.tmod_eq_emod_of_nonneg hx
 refine aK.loop (λx=>v<=x/\x<=w) (λx=>(w-x).toNat) ⟨Int.le_refl _,hw1⟩ ?_;rintro x ⟨q1,q2⟩;unfold kg;rw [dI hs,au,nS,au,acJ x (by omega)];have hx0:=Int.emod_nonneg x (by omega:kz c.S≠0);by_cases hg:0<=x%kz c.S/\c.bY[(x%kz c.S).toNat]? =some false
 ·rw [decide_eq_true hg,if_pos rfl];exact .mk ⟨q1,by omega,by rw [acJ x (by omega)];exact hg.2,by rw [acJ x (by omega)];exact hg.1⟩
 ·rw [decide_eq_false hg,if_neg (by simp),wrap64 (by omega) (by omega)];have di:x≠w:=λe=>hg ⟨hx0,by rw [e,hw3];simpa using hj⟩;exact .mk ⟨⟨by omega,by omega⟩,by show (w-(x+1)).toNat<(w-x).toNat;omega⟩
end Dn.S
