import Derived.Test.YtbkodohojpchjaaGreatDoorDnPRealm6
/-
  Realms: an order that was answered is answered alike. Conditions: none.
-/
set_option linter.unusedVariables false
set_option linter.unusedSimpArgs false
open List renaming mem_iff_getElem→c8,getElem?_eq_getElem→sh,length_set→AI,getElem_set→AS,getElem_mem→AT
open Go Dn
namespace Dn.S
theorem acp (r:au):aM (yd r) λb=>b=true->Small r/\(r.Shelf.L.length<=40/\r.aR.L.length<=40/\r.Seen.length<=60)/\ai9 r:=by
 unfold yd;by_cases h1:(40:Int)<(r.Shelf.L.length:Int)
 ·rw [if_pos h1,al,if_pos rfl];exact .mk (λh=>by cases h)
 rw [if_neg h1];by_cases h2:(40:Int)<(r.aR.L.length:Int)
 ·rw [if_pos h2,al,if_pos rfl];exact .mk (λh=>by cases h)
 rw [if_neg h2];by_cases h3:(60:Int)<(r.aN.L.length:Int)
 ·rw [if_pos h3,al,if_pos rfl];exact .mk (λh=>by cases h)
 rw [if_neg h3];by_cases h4:(60:Int)<(r.Seen.length:Int)
 ·rw [if_pos h4,al,if_pos rfl];exact .mk (λh=>by cases h)
 rw [if_neg h4,al];by_cases h5:(10000000000:Int)<r.aN.ct
 ·rw [decide_eq_true h5,if_pos rfl];exact .mk (λh=>by cases h)
 rw [decide_eq_false h5,if_neg (by decide)];have hS:Small r:=⟨by omega,by omega,by omega,by omega,λ_=>by omega⟩
 refine aM.bd (P:=λx=>x= .inl ()\/x= .inr false) ?_ ?_
 ·refine aM.count (λk=>(k:Int)) r.Shelf.L.length (λ_=>True) rfl trivial (λk hk _=> ?_) (λ_=> ?_)
  ·unfold sW;rw [if_pos (by omega),aP hk,aP hk];by_cases g1:(200:Int)<(r.Shelf.L[k].Path.length:Int)
   ·rw [if_pos g1,al,if_pos rfl];exact .mk (.inr rfl)
   rw [if_neg g1,al];by_cases g2:(1100:Int)<(r.Shelf.L[k].Value.length:Int)
   ·rw [decide_eq_true g2,if_pos rfl];exact .mk (.inr rfl)
   rw [decide_eq_false g2,if_neg (by decide),wrap64 (by omega) (by omega)];exact .mk ⟨by omega,trivial⟩
  ·unfold sW;rw [if_neg (by omega)];exact .mk (.inl rfl)
 rintro x (rfl|rfl);rotate_left
 ·exact .mk (λh=>by cases h)
 dsimp only;refine aM.bd (P:=λx=>x= .inl ()\/x= .inr false) ?_ ?_
 ·refine aM.count (λk=>(k:Int)) r.aR.L.length (λ_=>True) rfl trivial (λk hk _=> ?_) (λ_=> ?_)
  ·unfold sX;rw [if_pos (by omega),aP hk];by_cases g1:(200:Int)<(r.aR.L[k].Path.length:Int)
   ·rw [if_pos g1];exact .mk (.inr rfl)
   rw [if_neg g1,wrap64 (by omega) (by omega)];exact .mk ⟨by omega,trivial⟩
  ·unfold sX;rw [if_neg (by omega)];exact .mk (.inl rfl)
 rintro x (rfl|rfl);rotate_left
 ·exact .mk (λh=>by cases h)
 dsimp only;refine aM.bd (P:=λx=>(x= .inl ()/\ai9 r)\/x= .inr false) ?_ ?_
 ·refine aM.count (λk=>(k:Int)) r.Seen.length (λk=> ∀j (hj:j<r.Seen.length),j<k->r.Seen[j].Names.length<=1000) rfl (λj hj h=>by omega) (λk hk hp=> ?_) (λhp=> ?_)
  ·unfold sZ;rw [if_pos (by omega),aP hk,aP hk];by_cases g1:(1100:Int)<(r.Seen[k].Value.length:Int)
   ·rw [if_pos g1,al,if_pos rfl];exact .mk (.inr rfl)
   rw [if_neg g1,al];by_cases g2:(40:Int)<(r.Seen[k].Names.length:Int)
   ·rw [decide_eq_true g2,if_pos rfl];exact .mk (.inr rfl)
   rw [decide_eq_false g2,if_neg (by decide)];refine aM.bd (P:=λx=>x= .inl ()\/x= .inr false) ?_ ?_
   ·refine aM.count (λi=>(i:Int)) r.Seen[k].Names.length (λ_=>True) rfl trivial (λi hi _=> ?_) (λ_=> ?_)
    ·unfold sY;rw [aP hk,if_pos (by omega),aP hk,aP hi];by_cases g3:(200:Int)<(r.Seen[k].Names[i].length:Int)
     ·rw [if_pos g3];exact .mk (.inr rfl)
     rw [if_neg g3,wrap64 (by omega) (by omega)];exact .mk ⟨by omega,trivial⟩
    ·unfold sY;rw [aP hk,if_neg (by omega)];exact .mk (.inl rfl)
   rintro x (rfl|rfl)
   ·dsimp only;rw [wrap64 (by omega) (by omega)];refine .mk ⟨by omega,λj hj WM=> ?_⟩;by_cases hjj:j=k
    ·subst hjj;omega
    ·exact hp j hj (by omega)
   ·exact .mk (.inr rfl)
  ·unfold sZ;rw [if_neg (by omega)];refine .mk (.inl ⟨rfl,λx hx=> ?_⟩);obtain ⟨j,hj,rfl⟩:=c8.1 hx;exact hp j hj hj
 rintro x (⟨rfl,hN⟩|rfl)
 ·exact .mk (λ_=>⟨hS,⟨by omega,by omega,by omega⟩,hN⟩)
 ·exact .mk (λh=>by cases h)
theorem OX (x:aj)(h:x.Names.length<2^60):As (jR x) (jR x)=some true:=by unfold As;rw [if_pos rfl,if_pos rfl,if_pos rfl,if_pos rfl,if_pos rfl,show (jR x).Names=x.Names from rfl,T2 _ _ h,decide_eq_true rfl];rfl
theorem M3 (w:ai)(k:Int):(r6 k w).x=w.x:=by unfold r6;split<;>rfl
theorem acq {L:List aj}(hs:pQ iC L){c:Int}{x:aj}(hx:x.Client=c)(y:aj):y∈zt L c x↔y=x\/(y∈L/\y.Client≠c):=by
 unfold zt;subst hx;cases hh:fR iC L x.Client with
 |false=>
  rw [if_neg (by decide),OT];constructor
  ·rintro (h|h)
   ·refine .inr ⟨h,λhe=> ?_⟩;have:fR iC L x.Client=true:=pK.2 ⟨y,h,he⟩;rw [hh] at this;cases this
   ·exact .inl h
  ·rintro (h|⟨h,_⟩)
   ·exact .inr h
   ·exact .inl h
 |true=>
  obtain ⟨hk,he⟩:=(hs.has x.Client).1 hh;rw [if_pos rfl];have dG: ∀j (hj:j<L.length),j≠nq iC L x.Client->L[j].Client≠x.Client:=by
   intro j hj hjn hjc;have he:L[nq iC L x.Client].Client=x.Client:=he;rcases Nat.lt_or_gt_of_ne hjn with dK|dK
   ·have h5:L[j].Client<L[nq iC L x.Client].Client:=hs.lt hk dK;omega
   ·have h5:L[nq iC L x.Client].Client<L[j].Client:=hs.lt hj dK;omega
  rw [c8];constructor
  ·rintro ⟨j,hj,rfl⟩;rw [AI] at hj;rw [AS];split
   ·exact .inl rfl
   ·rename_i hjn;exact .inr ⟨AT hj,dG j hj (λh=>hjn h.symm)⟩
  ·rintro (rfl|⟨hy,hyc⟩)
   ·exact ⟨nq iC L y.Client,by rw [AI];exact hk,by rw [List.getElem_set_self]⟩
   ·obtain ⟨j,hj,rfl⟩:=c8.1 hy;refine ⟨j,by rw [AI];exact hj,?_⟩;rw [AS,if_neg];intro hjn;subst hjn;exact hyc he
theorem afu {L:List aj}(hs:pQ iC L){y:aj}(hy:y∈L):fS L y.Client=(y,true):=by
 have hh:fR iC L y.Client=true:=pK.2 ⟨y,hy,rfl⟩;obtain ⟨hk,he⟩:=(hs.has y.Client).1 hh;unfold fS;rw [hh,if_pos rfl,sh hk];obtain ⟨j,hj,rfl⟩:=c8.1 hy;have WM:j=nq iC L L[j].Client:=by
  have he:L[nq iC L L[j].Client].Client=L[j].Client:=he;rcases Nat.lt_trichotomy j (nq iC L L[j].Client) with dK|oM|dK
  ·have h5:L[j].Client<L[nq iC L L[j].Client].Client:=hs.lt hk dK;omega
  ·exact oM
  ·have h5:L[nq iC L L[j].Client].Client<L[j].Client:=hs.lt hj dK;omega
 congr 1;show L[nq iC L L[j].Client]=L[j];congr 1;exact WM.symm
theorem acr {L:List aj}{c:Int}(h: ∀y∈L,y.Client≠c):fS L c=(noR,false):=by
 unfold fS;cases hh:fR iC L c with
 |false=>rfl
 |true=>obtain ⟨y,hy,he⟩:=pK.1 hh;exact absurd he (h y hy)
theorem acs {L:List aj}{c:Int}(hs:pQ iC L)(h:(fS L c).2=true):(fS L c).1∈L/\(fS L c).1.Client=c:=by
 unfold fS at h⊢;cases hh:fR iC L c with
 |false=>rw [hh] at h;cases h
 |true=>obtain ⟨hk,he⟩:=(hs.has c).1 hh;rw [if_pos rfl,sh hk];exact ⟨AT hk,he⟩
end Dn.S
