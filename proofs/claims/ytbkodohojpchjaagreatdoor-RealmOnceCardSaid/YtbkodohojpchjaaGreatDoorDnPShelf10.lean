import Derived.Test.YtbkodohojpchjaaGreatDoorDnPShelf9
/-
  Shelves: a change changes just its node; ShelfJust. Conditions: none.
-/
open Go Dn
set_option linter.unusedVariables false
set_option linter.unusedSimpArgs false
namespace Dn.S
theorem Po {L:List ae} (lq:iW L) (p value:List UInt8) (owner:Int):iW (tg L p value owner).1:=by
 unfold tg
 by_cases h:pa L p value owner=0
 rotate_left
 ·rw [if_neg h];exact lq
 rw [if_pos h]
 obtain ⟨c1,c2,c3,c4,c5,c6,c7⟩:=GH h
 have kG:=ag6 c2
 have tw: ∀m,m∈HM L ⟨p,value,0,owner⟩↔m=⟨p,value,0,owner⟩∨m∈L:=fun m=>QM
 have ko:p≠[47]:=fun e=>by
  obtain ⟨m,hm,hr⟩:=lq.root
  exact kG m hm (by rw [hr,e])
 refine ⟨by show (HM _ _).length≤200;rw [ZJ];omega,ZK lq.ord c1 kG,?_,?_,?_,?_⟩
 ·obtain ⟨m,hm,hr⟩:=lq.root
  exact ⟨m,(tw m).2 (.inr hm),hr⟩
 ·intro n hn
  rcases (tw n).1 hn with rfl|hn
  ·exact ⟨c5,by simp,by simp,c6⟩
  ·exact lq.yV n hn
 ·intro n hn hr
  rcases (tw n).1 hn with rfl|hn
  ·exact absurd hr ko
  ·exact lq.top n hn hr
 ·intro n hn hr
  rcases (tw n).1 hn with rfl|hn
  ·have h1:=c3
   rw [ac5] at h1
   obtain ⟨g1,g2,g3,_⟩:=get_at h1
   refine ⟨(kl L (cM p).1).1,(tw _).2 (.inr (by rw [g2];exact List.getElem_mem g1)),g3,c4⟩
  ·obtain ⟨m,hm,h1,h2⟩:=lq.grown n hn hr
   exact ⟨m,(tw m).2 (.inr hm),h1,h2⟩
theorem ZL {L:List ae} (hs:nY L) {i:Nat} (hi:i<L.length) {y:ae} (hy:y.Path=(L[i]).Path) (n:ae):n∈L.set i y↔n=y∨(n∈L∧n.Path≠y.Path):=by
 constructor
 ·intro h
  obtain ⟨j,hj,rfl⟩:=List.mem_iff_getElem.1 h
  rw [List.length_set] at hj
  rw [List.getElem_set]
  by_cases NT:i=j
  ·subst NT;simp
  ·simp only [NT,if_false]
   refine .inr ⟨List.getElem_mem hj,fun e=>NT ?_⟩
   rw [hy] at e
   exact (BC hs hj hi e).symm
 ·rintro (rfl|⟨h,db⟩)
  ·exact List.mem_iff_getElem.2 ⟨i,by rw [List.length_set];exact hi,by simp⟩
  ·obtain ⟨j,hj,rfl⟩:=List.mem_iff_getElem.1 h
   have NT: ¬i=j:=fun e=>by subst e;exact db hy.symm
   exact List.mem_iff_getElem.2 ⟨j,by rw [List.length_set];exact hj,by rw [List.getElem_set];simp [NT]⟩
theorem SJ {L:List ae} {i:Nat} (hi:i<L.length) {y:ae} (hy:y.Path=(L[i]).Path):(L.set i y).map (·.Path)=L.map (·.Path):=by
 rw [List.map_set]
 refine List.ext_getElem (by simp) fun k h1 h2=> ?_
 rw [List.getElem_set]
 by_cases hik:i=k
 ·subst hik;simp [hy]
 ·simp [hik]
theorem SK {L M:List ae} (h:M.map (·.Path)=L.map (·.Path)) (hs:nY L):nY M:=by
 constructor
 ·intro n hn
  have:n.Path∈L.map (·.Path):=by rw [←h];exact List.mem_map.2 ⟨n,hn,rfl⟩
  obtain ⟨m,hm,e⟩:=List.mem_map.1 this
  rw [←e];exact hs.1 m hm
 ·have h1:(L.map (·.Path)).Pairwise fun a b=>mW (aK a) (aK b)=true:=List.pairwise_map.2 hs.2
  rw [←h] at h1
  exact List.pairwise_map.1 h1
theorem ZM {L:List ae} {p value:List UInt8} {version:Int} (h:SF L p value version=0):(cV L p).2=0∧value.length≤1000∧(kl L p).1.Version<1000000000:=by
 unfold SF at h
 by_cases h0:wJ L p version=0
 ·rw [if_pos h0] at h
  by_cases h1:(1000:Int)<(value.length:Int)
  ·simp [h1] at h
  ·rw [if_neg h1] at h
   by_cases h2:(1000000000:Int)≤(kl L p).1.Version
   ·simp [h2] at h
   ·exact ⟨BD h0,by omega,by omega⟩
 ·rw [if_neg h0] at h;exact absurd h h0
theorem QO {L:List ae} (lq:iW L) (p value:List UInt8) (version:Int):iW (BE L p value version).1:=by
 unfold BE
 by_cases h:SF L p value version=0
 rotate_left
 ·rw [if_neg h];exact lq
 rw [if_pos h]
 obtain ⟨c1,c2,c3⟩:=ZM h
 obtain ⟨g1,g2,g3,_⟩:=get_at c1
 have hx:(kl L p).1∈L:=by rw [g2];exact List.getElem_mem g1
 have hy:(Wz (kl L p).1 value).Path=(L[(cV L p).1.toNat]).Path:=by rw [←g2];rfl
 have tw:=ZL lq.ord g1 hy
 have hold: ∀m∈L,∃m'∈L.set (cV L p).1.toNat (Wz (kl L p).1 value),m'.Path=m.Path∧m'.bJ=m.bJ:=by
  intro m hm
  by_cases he:m.Path=(Wz (kl L p).1 value).Path
  ·have:=Wx lq.ord hm hx he
   subst this
   exact ⟨_,(tw _).2 (.inl rfl),rfl,rfl⟩
  ·exact ⟨m,(tw m).2 (.inr ⟨hm,he⟩),rfl,rfl⟩
 have hfl:=lq.yV _ hx
 have kG: ∀n∈L.set (cV L p).1.toNat (Wz (kl L p).1 value),∃m∈L,n.Path=m.Path∧n.bJ=m.bJ:=by
  intro n hn
  rcases (tw n).1 hn with rfl|⟨hn,_⟩
  ·exact ⟨_,hx,rfl,rfl⟩
  ·exact ⟨n,hn,rfl,rfl⟩
 refine ⟨by show (L.set _ _).length≤200;rw [List.length_set];exact lq.len,SK (SJ g1 hy) lq.ord,?_,?_,?_,?_⟩
 ·obtain ⟨m,hm,hr⟩:=lq.root
  obtain ⟨m',h1,h2,_⟩:=hold m hm
  exact ⟨m',h1,by rw [h2,hr]⟩
 ·intro n hn
  rcases (tw n).1 hn with rfl|⟨hn,_⟩
  ·refine ⟨c2,?_,?_,hfl.2.2.2⟩
   ·show 0≤(kl L p).1.Version+1;omega
   ·show (kl L p).1.Version+1≤1000000000;omega
  ·exact lq.yV n hn
 ·intro n hn hr
  obtain ⟨m,hm,h1,h2⟩:=kG n hn
  rw [h2];exact lq.top m hm (by rw [←h1];exact hr)
 ·intro n hn hr
  obtain ⟨m,hm,h1,h2⟩:=kG n hn
  obtain ⟨q,hq,h3,h4⟩:=lq.grown m hm (by rw [←h1];exact hr)
  obtain ⟨q',h5,h6,h7⟩:=hold q hq
  exact ⟨q',h5,by rw [h6,h3,h1],by rw [h7,h4]⟩
theorem SL {L:List ae} (hs:nY L) {i:Nat} (hi:i<L.length) (n:ae):n∈L.take i++L.drop (i+1)↔n∈L∧n.Path≠(L[i]).Path:=by
 rw [List.mem_append]
 constructor
 ·rintro (h|h)
  ·obtain ⟨j,hj,rfl⟩:=List.mem_iff_getElem.1 h
   rw [List.length_take] at hj
   rw [List.getElem_take]
   exact ⟨List.getElem_mem _,fun e=>by have:=BC hs (by omega) hi e;omega⟩
  ·obtain ⟨j,hj,rfl⟩:=List.mem_iff_getElem.1 h
   rw [List.length_drop] at hj
   rw [List.getElem_drop]
   exact ⟨List.getElem_mem _,fun e=>by have:=BC hs (by omega) hi e;omega⟩
 ·rintro ⟨h,db⟩
  obtain ⟨j,hj,rfl⟩:=List.mem_iff_getElem.1 h
  rcases Nat.lt_trichotomy j i with h1|h1|h1
  ·exact .inl (List.mem_iff_getElem.2 ⟨j,by rw [List.length_take];omega,by rw [List.getElem_take]⟩)
  ·subst h1;exact absurd rfl db
  ·exact .inr (List.mem_iff_getElem.2 ⟨j-(i+1),by rw [List.length_drop];omega,by rw [List.getElem_drop];congr 1;omega⟩)
theorem ZN {L:List ae} {p:List UInt8} {version:Int} (h:SG L p version=0):p≠[47]∧(cV L p).2=0∧lg L p=[]:=by
 unfold SG at h
 by_cases hp:p=[47]
 ·simp [hp] at h
 rw [if_neg hp] at h
 by_cases h0:wJ L p version=0
 ·rw [if_pos h0] at h
  by_cases hk:lg L p=[]
  ·exact ⟨hp,BD h0,hk⟩
  ·simp [hk] at h
 ·rw [if_neg h0] at h;exact absurd h h0
theorem ZO {L:List ae} (lq:iW L) (p:List UInt8) (version:Int):iW (Pn L p version).1:=by
 unfold Pn
 by_cases h:SG L p version=0
 rotate_left
 ·rw [if_neg h];exact lq
 rw [if_pos h]
 obtain ⟨c1,c2,c3⟩:=ZN h
 obtain ⟨g1,g2,g3,_⟩:=get_at c2
 rw [g2] at g3
 have tw:=SL lq.ord g1
 rw [g3] at tw
 have ft:(L.take (cV L p).1.toNat++L.drop ((cV L p).1.toNat+1)).Sublist L:=by
  conv=>rhs;rw [←List.take_append_drop (cV L p).1.toNat L]
  exact (List.Sublist.refl _).append (by rw [List.drop_eq_getElem_cons g1];exact List.sublist_cons_self ..)
 refine ⟨Nat.le_trans ft.length_le lq.len,QK ft lq.ord,?_,fun n hn=>lq.yV n (ft.subset hn),fun n hn=>lq.top n (ft.subset hn),fun n hn hr=> ?_⟩
 ·obtain ⟨m,hm,hr⟩:=lq.root
  exact ⟨m,(tw m).2 ⟨hm,by rw [hr];exact fun e=>c1 e.symm⟩,hr⟩
 ·obtain ⟨m,hm,h1,h2⟩:=lq.grown n (ft.subset hn) hr
  refine ⟨m,(tw m).2 ⟨hm,fun e=> ?_⟩,h1,h2⟩
  have ZG:CB p n=true:=by
   unfold CB
   rw [decide_eq_true_eq]
   exact ⟨(r5 (lq.ord.1 n (ft.subset hn))).2 hr,by rw [←h1,e]⟩
  have:n∈L.filter (CB p):=List.mem_filter.2 ⟨ft.subset hn,ZG⟩
  unfold lg at c3
  rw [List.map_eq_nil_iff] at c3
  rw [c3] at this;simp at this
end Dn.S
