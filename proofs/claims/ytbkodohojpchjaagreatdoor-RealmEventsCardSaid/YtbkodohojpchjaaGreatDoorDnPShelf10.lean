import Derived.Test.YtbkodohojpchjaaGreatDoorDnPShelf9
/-
  Shelves: a change changes just its node; ShelfJust. Conditions: none.
-/
open Go Dn
set_option linter.unusedVariables false
set_option linter.unusedSimpArgs false
namespace Dn.S
theorem LA {L:List ae} (mC:ja L) (p value:List UInt8) (owner:Int):ja (rr L p value owner).1:=by
 unfold rr
 by_cases h:nV L p value owner=0
 rotate_left
 ·rw [if_neg h];exact mC
 rw [if_pos h]
 obtain ⟨c1,c2,c3,c4,c5,c6,c7⟩:=DW h
 have jX:=acA c2
 have vo: ∀m,m∈EW L ⟨p,value,0,owner⟩↔m=⟨p,value,0,owner⟩∨m∈L:=fun m=>MW
 have jH:p≠[47]:=fun e=>by
  obtain ⟨m,hm,hr⟩:=mC.root
  exact jX m hm (by rw [hr,e])
 refine ⟨by show (EW _ _).length≤200;rw [Ve];omega,Vf mC.ord c1 jX,?_,?_,?_,?_⟩
 ·obtain ⟨m,hm,hr⟩:=mC.root
  exact ⟨m,(vo m).2 (.inr hm),hr⟩
 ·intro n hn
  rcases (vo n).1 hn with rfl|hn
  ·exact ⟨c5,by simp,by simp,c6⟩
  ·exact mC.xv n hn
 ·intro n hn hr
  rcases (vo n).1 hn with rfl|hn
  ·exact absurd hr jH
  ·exact mC.top n hn hr
 ·intro n hn hr
  rcases (vo n).1 hn with rfl|hn
  ·have h1:=c3
   rw [Yy] at h1
   obtain ⟨g1,g2,g3,_⟩:=get_at h1
   refine ⟨(jD L (ez p).1).1,(vo _).2 (.inr (by rw [g2];exact List.getElem_mem g1)),g3,c4⟩
  ·obtain ⟨m,hm,h1,h2⟩:=mC.grown n hn hr
   exact ⟨m,(vo m).2 (.inr hm),h1,h2⟩
theorem Vg {L:List ae} (hs:oT L) {i:Nat} (hi:i<L.length) {y:ae} (hy:y.Path=(L[i]).Path) (n:ae):n∈L.set i y↔n=y∨(n∈L∧n.Path≠y.Path):=by
 constructor
 ·intro h
  obtain ⟨j,hj,rfl⟩:=List.mem_iff_getElem.1 h
  rw [List.length_set] at hj
  rw [List.getElem_set]
  by_cases O9:i=j
  ·subst O9;simp
  ·simp only [O9,if_false]
   refine .inr ⟨List.getElem_mem hj,fun e=>O9 ?_⟩
   rw [hy] at e
   exact (BR hs hj hi e).symm
 ·rintro (rfl|⟨h,cG⟩)
  ·exact List.mem_iff_getElem.2 ⟨i,by rw [List.length_set];exact hi,by simp⟩
  ·obtain ⟨j,hj,rfl⟩:=List.mem_iff_getElem.1 h
   have O9: ¬i=j:=fun e=>by subst e;exact cG hy.symm
   exact List.mem_iff_getElem.2 ⟨j,by rw [List.length_set];exact hj,by rw [List.getElem_set];simp [O9]⟩
theorem OP {L:List ae} {i:Nat} (hi:i<L.length) {y:ae} (hy:y.Path=(L[i]).Path):(L.set i y).map (·.Path)=L.map (·.Path):=by
 rw [List.map_set]
 refine List.ext_getElem (by simp) fun k h1 h2=> ?_
 rw [List.getElem_set]
 by_cases Y7:i=k
 ·subst Y7;simp [hy]
 ·simp [Y7]
theorem OQ {L M:List ae} (h:M.map (·.Path)=L.map (·.Path)) (hs:oT L):oT M:=by
 constructor
 ·intro n hn
  have:n.Path∈L.map (·.Path):=by rw [←h];exact List.mem_map.2 ⟨n,hn,rfl⟩
  obtain ⟨m,hm,e⟩:=List.mem_map.1 this
  rw [←e];exact hs.1 m hm
 ·have h1:(L.map (·.Path)).Pairwise fun a b=>oR (aM a) (aM b)=true:=List.pairwise_map.2 hs.2
  rw [←h] at h1
  exact List.pairwise_map.1 h1
theorem Vh {L:List ae} {p value:List UInt8} {version:Int} (h:OL L p value version=0):(cL L p).2=0∧value.length≤1000∧(jD L p).1.Version<1000000000:=by
 unfold OL at h
 by_cases h0:uE L p version=0
 ·rw [if_pos h0] at h
  by_cases h1:(1000:Int)<(value.length:Int)
  ·simp [h1] at h
  ·rw [if_neg h1] at h
   by_cases h2:(1000000000:Int)≤(jD L p).1.Version
   ·simp [h2] at h
   ·exact ⟨zn h0,by omega,by omega⟩
 ·rw [if_neg h0] at h;exact absurd h h0
theorem MY {L:List ae} (mC:ja L) (p value:List UInt8) (version:Int):ja (zo L p value version).1:=by
 unfold zo
 by_cases h:OL L p value version=0
 rotate_left
 ·rw [if_neg h];exact mC
 rw [if_pos h]
 obtain ⟨c1,c2,c3⟩:=Vh h
 obtain ⟨g1,g2,g3,_⟩:=get_at c1
 have hx:(jD L p).1∈L:=by rw [g2];exact List.getElem_mem g1
 have hy:(Sq (jD L p).1 value).Path=(L[(cL L p).1.toNat]).Path:=by rw [←g2];rfl
 have vo:=Vg mC.ord g1 hy
 have hold: ∀m∈L,∃m'∈L.set (cL L p).1.toNat (Sq (jD L p).1 value),m'.Path=m.Path∧m'.cS=m.cS:=by
  intro m hm
  by_cases he:m.Path=(Sq (jD L p).1 value).Path
  ·have:=So mC.ord hm hx he
   subst this
   exact ⟨_,(vo _).2 (.inl rfl),rfl,rfl⟩
  ·exact ⟨m,(vo m).2 (.inr ⟨hm,he⟩),rfl,rfl⟩
 have hfl:=mC.xv _ hx
 have jX: ∀n∈L.set (cL L p).1.toNat (Sq (jD L p).1 value),∃m∈L,n.Path=m.Path∧n.cS=m.cS:=by
  intro n hn
  rcases (vo n).1 hn with rfl|⟨hn,_⟩
  ·exact ⟨_,hx,rfl,rfl⟩
  ·exact ⟨n,hn,rfl,rfl⟩
 refine ⟨by show (L.set _ _).length≤200;rw [List.length_set];exact mC.len,OQ (OP g1 hy) mC.ord,?_,?_,?_,?_⟩
 ·obtain ⟨m,hm,hr⟩:=mC.root
  obtain ⟨m',h1,h2,_⟩:=hold m hm
  exact ⟨m',h1,by rw [h2,hr]⟩
 ·intro n hn
  rcases (vo n).1 hn with rfl|⟨hn,_⟩
  ·refine ⟨c2,?_,?_,hfl.2.2.2⟩
   ·show 0≤(jD L p).1.Version+1;omega
   ·show (jD L p).1.Version+1≤1000000000;omega
  ·exact mC.xv n hn
 ·intro n hn hr
  obtain ⟨m,hm,h1,h2⟩:=jX n hn
  rw [h2];exact mC.top m hm (by rw [←h1];exact hr)
 ·intro n hn hr
  obtain ⟨m,hm,h1,h2⟩:=jX n hn
  obtain ⟨q,hq,h3,h4⟩:=mC.grown m hm (by rw [←h1];exact hr)
  obtain ⟨q',h5,h6,h7⟩:=hold q hq
  exact ⟨q',h5,by rw [h6,h3,h1],by rw [h7,h4]⟩
theorem OR {L:List ae} (hs:oT L) {i:Nat} (hi:i<L.length) (n:ae):n∈L.take i++L.drop (i+1)↔n∈L∧n.Path≠(L[i]).Path:=by
 rw [List.mem_append]
 constructor
 ·rintro (h|h)
  ·obtain ⟨j,hj,rfl⟩:=List.mem_iff_getElem.1 h
   rw [List.length_take] at hj
   rw [List.getElem_take]
   exact ⟨List.getElem_mem _,fun e=>by have:=BR hs (by omega) hi e;omega⟩
  ·obtain ⟨j,hj,rfl⟩:=List.mem_iff_getElem.1 h
   rw [List.length_drop] at hj
   rw [List.getElem_drop]
   exact ⟨List.getElem_mem _,fun e=>by have:=BR hs (by omega) hi e;omega⟩
 ·rintro ⟨h,cG⟩
  obtain ⟨j,hj,rfl⟩:=List.mem_iff_getElem.1 h
  rcases Nat.lt_trichotomy j i with h1|h1|h1
  ·exact .inl (List.mem_iff_getElem.2 ⟨j,by rw [List.length_take];omega,by rw [List.getElem_take]⟩)
  ·subst h1;exact absurd rfl cG
  ·exact .inr (List.mem_iff_getElem.2 ⟨j-(i+1),by rw [List.length_drop];omega,by rw [List.getElem_drop];congr 1;omega⟩)
theorem Vi {L:List ae} {p:List UInt8} {version:Int} (h:OM L p version=0):p≠[47]∧(cL L p).2=0∧kq L p=[]:=by
 unfold OM at h
 by_cases hp:p=[47]
 ·simp [hp] at h
 rw [if_neg hp] at h
 by_cases h0:uE L p version=0
 ·rw [if_pos h0] at h
  by_cases hk:kq L p=[]
  ·exact ⟨hp,zn h0,hk⟩
  ·simp [hk] at h
 ·rw [if_neg h0] at h;exact absurd h h0
theorem Vj {L:List ae} (mC:ja L) (p:List UInt8) (version:Int):ja (Lz L p version).1:=by
 unfold Lz
 by_cases h:OM L p version=0
 rotate_left
 ·rw [if_neg h];exact mC
 rw [if_pos h]
 obtain ⟨c1,c2,c3⟩:=Vi h
 obtain ⟨g1,g2,g3,_⟩:=get_at c2
 rw [g2] at g3
 have vo:=OR mC.ord g1
 rw [g3] at vo
 have eF:(L.take (cL L p).1.toNat++L.drop ((cL L p).1.toNat+1)).Sublist L:=by
  conv=>rhs;rw [←List.take_append_drop (cL L p).1.toNat L]
  exact (List.Sublist.refl _).append (by rw [List.drop_eq_getElem_cons g1];exact List.sublist_cons_self ..)
 refine ⟨Nat.le_trans eF.length_le mC.len,MR eF mC.ord,?_,fun n hn=>mC.xv n (eF.subset hn),fun n hn=>mC.top n (eF.subset hn),fun n hn hr=> ?_⟩
 ·obtain ⟨m,hm,hr⟩:=mC.root
  exact ⟨m,(vo m).2 ⟨hm,by rw [hr];exact fun e=>c1 e.symm⟩,hr⟩
 ·obtain ⟨m,hm,h1,h2⟩:=mC.grown n (eF.subset hn) hr
  refine ⟨m,(vo m).2 ⟨hm,fun e=> ?_⟩,h1,h2⟩
  have Vc:Am p n=true:=by
   unfold Am
   rw [decide_eq_true_eq]
   exact ⟨(Lx (mC.ord.1 n (eF.subset hn))).2 hr,by rw [←h1,e]⟩
  have:n∈L.filter (Am p):=List.mem_filter.2 ⟨eF.subset hn,Vc⟩
  unfold kq at c3
  rw [List.map_eq_nil_iff] at c3
  rw [c3] at this;simp at this
end Dn.S
