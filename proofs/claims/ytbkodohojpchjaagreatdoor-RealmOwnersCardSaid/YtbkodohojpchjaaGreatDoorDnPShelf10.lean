import Derived.Test.YtbkodohojpchjaaGreatDoorDnPShelf9
/-
  Shelves: a change changes just its node; ShelfJust. Conditions: none.
-/
open Go Dn
set_option linter.unusedVariables false
set_option linter.unusedSimpArgs false
namespace Dn.S
theorem MJ {L:List ae} (lW:ik L) (p value:List UInt8) (owner:Int):ik (nv L p value owner).1:=by
 unfold nv
 by_cases h:ot L p value owner=0
 rotate_left
 ·rw [if_neg h];exact lW
 rw [if_pos h]
 obtain ⟨c1,c2,c3,c4,c5,c6,c7⟩:=ES h
 have ki:=adt c2
 have su: ∀m,m∈FV L ⟨p,value,0,owner⟩↔m=⟨p,value,0,owner⟩∨m∈L:=fun m=>IH
 have jY:p≠[47]:=fun e=>by
  obtain ⟨m,hm,hr⟩:=lW.root
  exact ki m hm (by rw [hr,e])
 refine ⟨by show (FV _ _).length≤200;rw [Wi];omega,Wj lW.ord c1 ki,?_,?_,?_,?_⟩
 ·obtain ⟨m,hm,hr⟩:=lW.root
  exact ⟨m,(su m).2 (.inr hm),hr⟩
 ·intro n hn
  rcases (su n).1 hn with rfl|hn
  ·exact ⟨c5,by simp,by simp,c6⟩
  ·exact lW.vr n hn
 ·intro n hn hr
  rcases (su n).1 hn with rfl|hn
  ·exact absurd hr jY
  ·exact lW.top n hn hr
 ·intro n hn hr
  rcases (su n).1 hn with rfl|hn
  ·have h1:=c3
   rw [ZE] at h1
   obtain ⟨g1,g2,g3,_⟩:=get_at h1
   refine ⟨(jO L (cK p).1).1,(su _).2 (.inr (by rw [g2];exact List.getElem_mem g1)),g3,c4⟩
  ·obtain ⟨m,hm,h1,h2⟩:=lW.grown n hn hr
   exact ⟨m,(su m).2 (.inr hm),h1,h2⟩
theorem Wk {L:List ae} (hs:nB L) {i:Nat} (hi:i<L.length) {y:ae} (hy:y.Path=(L[i]).Path) (n:ae):n∈L.set i y↔n=y∨(n∈L∧n.Path≠y.Path):=by
 constructor
 ·intro h
  obtain ⟨j,hj,rfl⟩:=List.mem_iff_getElem.1 h
  rw [List.length_set] at hj
  rw [List.getElem_set]
  by_cases Na:i=j
  ·subst Na;simp
  ·simp only [Na,if_false]
   refine .inr ⟨List.getElem_mem hj,fun e=>Na ?_⟩
   rw [hy] at e
   exact (zZ hs hj hi e).symm
 ·rintro (rfl|⟨h,cI⟩)
  ·exact List.mem_iff_getElem.2 ⟨i,by rw [List.length_set];exact hi,by simp⟩
  ·obtain ⟨j,hj,rfl⟩:=List.mem_iff_getElem.1 h
   have Na: ¬i=j:=fun e=>by subst e;exact cI hy.symm
   exact List.mem_iff_getElem.2 ⟨j,by rw [List.length_set];exact hj,by rw [List.getElem_set];simp [Na]⟩
theorem P2 {L:List ae} {i:Nat} (hi:i<L.length) {y:ae} (hy:y.Path=(L[i]).Path):(L.set i y).map (·.Path)=L.map (·.Path):=by
 rw [List.map_set]
 refine List.ext_getElem (by simp) fun k h1 h2=> ?_
 rw [List.getElem_set]
 by_cases hik:i=k
 ·subst hik;simp [hy]
 ·simp [hik]
theorem P3 {L M:List ae} (h:M.map (·.Path)=L.map (·.Path)) (hs:nB L):nB M:=by
 constructor
 ·intro n hn
  have:n.Path∈L.map (·.Path):=by rw [←h];exact List.mem_map.2 ⟨n,hn,rfl⟩
  obtain ⟨m,hm,e⟩:=List.mem_map.1 this
  rw [←e];exact hs.1 m hm
 ·have h1:(L.map (·.Path)).Pairwise fun a b=>o8 (aP a) (aP b)=true:=List.pairwise_map.2 hs.2
  rw [←h] at h1
  exact List.pairwise_map.1 h1
theorem N8 {L:List ae} {p value:List UInt8} {version:Int} (h:PY L p value version=0):(cG L p).2=0∧value.length≤1000∧(jO L p).1.Version<1000000000:=by
 unfold PY at h
 by_cases h0:vm L p version=0
 ·rw [if_pos h0] at h
  by_cases h1:(1000:Int)<(value.length:Int)
  ·simp [h1] at h
  ·rw [if_neg h1] at h
   by_cases h2:(1000000000:Int)≤(jO L p).1.Version
   ·simp [h2] at h
   ·exact ⟨z1 h0,by omega,by omega⟩
 ·rw [if_neg h0] at h;exact absurd h h0
theorem N9 {L:List ae} (lW:ik L) (p value:List UInt8) (version:Int):ik (xP L p value version).1:=by
 unfold xP
 by_cases h:PY L p value version=0
 rotate_left
 ·rw [if_neg h];exact lW
 rw [if_pos h]
 obtain ⟨c1,c2,c3⟩:=N8 h
 obtain ⟨g1,g2,g3,_⟩:=get_at c1
 have hx:(jO L p).1∈L:=by rw [g2];exact List.getElem_mem g1
 have hy:(Tu (jO L p).1 value).Path=(L[(cG L p).1.toNat]).Path:=by rw [←g2];rfl
 have su:=Wk lW.ord g1 hy
 have hold: ∀m∈L,∃m'∈L.set (cG L p).1.toNat (Tu (jO L p).1 value),m'.Path=m.Path∧m'.bj=m.bj:=by
  intro m hm
  by_cases he:m.Path=(Tu (jO L p).1 value).Path
  ·have:=Ts lW.ord hm hx he
   subst this
   exact ⟨_,(su _).2 (.inl rfl),rfl,rfl⟩
  ·exact ⟨m,(su m).2 (.inr ⟨hm,he⟩),rfl,rfl⟩
 have hfl:=lW.vr _ hx
 have ki: ∀n∈L.set (cG L p).1.toNat (Tu (jO L p).1 value),∃m∈L,n.Path=m.Path∧n.bj=m.bj:=by
  intro n hn
  rcases (su n).1 hn with rfl|⟨hn,_⟩
  ·exact ⟨_,hx,rfl,rfl⟩
  ·exact ⟨n,hn,rfl,rfl⟩
 refine ⟨by show (L.set _ _).length≤200;rw [List.length_set];exact lW.len,P3 (P2 g1 hy) lW.ord,?_,?_,?_,?_⟩
 ·obtain ⟨m,hm,hr⟩:=lW.root
  obtain ⟨m',h1,h2,_⟩:=hold m hm
  exact ⟨m',h1,by rw [h2,hr]⟩
 ·intro n hn
  rcases (su n).1 hn with rfl|⟨hn,_⟩
  ·refine ⟨c2,?_,?_,hfl.2.2.2⟩
   ·show 0≤(jO L p).1.Version+1;omega
   ·show (jO L p).1.Version+1≤1000000000;omega
  ·exact lW.vr n hn
 ·intro n hn hr
  obtain ⟨m,hm,h1,h2⟩:=ki n hn
  rw [h2];exact lW.top m hm (by rw [←h1];exact hr)
 ·intro n hn hr
  obtain ⟨m,hm,h1,h2⟩:=ki n hn
  obtain ⟨q,hq,h3,h4⟩:=lW.grown m hm (by rw [←h1];exact hr)
  obtain ⟨q',h5,h6,h7⟩:=hold q hq
  exact ⟨q',h5,by rw [h6,h3,h1],by rw [h7,h4]⟩
theorem P4 {L:List ae} (hs:nB L) {i:Nat} (hi:i<L.length) (n:ae):n∈L.take i++L.drop (i+1)↔n∈L∧n.Path≠(L[i]).Path:=by
 rw [List.mem_append]
 constructor
 ·rintro (h|h)
  ·obtain ⟨j,hj,rfl⟩:=List.mem_iff_getElem.1 h
   rw [List.length_take] at hj
   rw [List.getElem_take]
   exact ⟨List.getElem_mem _,fun e=>by have:=zZ hs (by omega) hi e;omega⟩
  ·obtain ⟨j,hj,rfl⟩:=List.mem_iff_getElem.1 h
   rw [List.length_drop] at hj
   rw [List.getElem_drop]
   exact ⟨List.getElem_mem _,fun e=>by have:=zZ hs (by omega) hi e;omega⟩
 ·rintro ⟨h,cI⟩
  obtain ⟨j,hj,rfl⟩:=List.mem_iff_getElem.1 h
  rcases Nat.lt_trichotomy j i with h1|h1|h1
  ·exact .inl (List.mem_iff_getElem.2 ⟨j,by rw [List.length_take];omega,by rw [List.getElem_take]⟩)
  ·subst h1;exact absurd rfl cI
  ·exact .inr (List.mem_iff_getElem.2 ⟨j-(i+1),by rw [List.length_drop];omega,by rw [List.getElem_drop];congr 1;omega⟩)
theorem Wl {L:List ae} {p:List UInt8} {version:Int} (h:PZ L p version=0):p≠[47]∧(cG L p).2=0∧kM L p=[]:=by
 unfold PZ at h
 by_cases hp:p=[47]
 ·simp [hp] at h
 rw [if_neg hp] at h
 by_cases h0:vm L p version=0
 ·rw [if_pos h0] at h
  by_cases hk:kM L p=[]
  ·exact ⟨hp,z1 h0,hk⟩
  ·simp [hk] at h
 ·rw [if_neg h0] at h;exact absurd h h0
theorem Wm {L:List ae} (lW:ik L) (p:List UInt8) (version:Int):ik (II L p version).1:=by
 unfold II
 by_cases h:PZ L p version=0
 rotate_left
 ·rw [if_neg h];exact lW
 rw [if_pos h]
 obtain ⟨c1,c2,c3⟩:=Wl h
 obtain ⟨g1,g2,g3,_⟩:=get_at c2
 rw [g2] at g3
 have su:=P4 lW.ord g1
 rw [g3] at su
 have eQ:(L.take (cG L p).1.toNat++L.drop ((cG L p).1.toNat+1)).Sublist L:=by
  conv=>rhs;rw [←List.take_append_drop (cG L p).1.toNat L]
  exact (List.Sublist.refl _).append (by rw [List.drop_eq_getElem_cons g1];exact List.sublist_cons_self ..)
 refine ⟨Nat.le_trans eQ.length_le lW.len,N5 eQ lW.ord,?_,fun n hn=>lW.vr n (eQ.subset hn),fun n hn=>lW.top n (eQ.subset hn),fun n hn hr=> ?_⟩
 ·obtain ⟨m,hm,hr⟩:=lW.root
  exact ⟨m,(su m).2 ⟨hm,by rw [hr];exact fun e=>c1 e.symm⟩,hr⟩
 ·obtain ⟨m,hm,h1,h2⟩:=lW.grown n (eQ.subset hn) hr
  refine ⟨m,(su m).2 ⟨hm,fun e=> ?_⟩,h1,h2⟩
  have Wf:A3 p n=true:=by
   unfold A3
   rw [decide_eq_true_eq]
   exact ⟨(q0 (lW.ord.1 n (eQ.subset hn))).2 hr,by rw [←h1,e]⟩
  have:n∈L.filter (A3 p):=List.mem_filter.2 ⟨eQ.subset hn,Wf⟩
  unfold kM at c3
  rw [List.map_eq_nil_iff] at c3
  rw [c3] at this;simp at this
end Dn.S
