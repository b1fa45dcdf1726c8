import Derived.Test.YtbkodohojpchjaaGreatDoorDnPShelf9
/-
  Shelves: a change changes just its node; ShelfJust. Conditions: none.
-/
open Go Dn
set_option linter.unusedVariables false
set_option linter.unusedSimpArgs false
namespace Dn.S
theorem O1 {L:List ae} (lr:gO L) (p value:List UInt8) (owner:Int):gO (s5 L p value owner).1:=by
 unfold s5
 by_cases h:o4 L p value owner=0
 rotate_left
 ·rw [if_neg h];exact lr
 rw [if_pos h]
 obtain ⟨c1,c2,c3,c4,c5,c6,c7⟩:=GH h
 have kF:=ag1 c2
 have tk: ∀m,m∈HK L ⟨p,value,0,owner⟩↔m=⟨p,value,0,owner⟩∨m∈L:=fun m=>Qm
 have kn:p≠[47]:=fun e=>by
  obtain ⟨m,hm,hr⟩:=lr.root
  exact kF m hm (by rw [hr,e])
 refine ⟨by show (HK _ _).length≤200;rw [Y6];omega,Y7 lr.ord c1 kF,?_,?_,?_,?_⟩
 ·obtain ⟨m,hm,hr⟩:=lr.root
  exact ⟨m,(tk m).2 (.inr hm),hr⟩
 ·intro n hn
  rcases (tk n).1 hn with rfl|hn
  ·exact ⟨c5,by simp,by simp,c6⟩
  ·exact lr.wu n hn
 ·intro n hn hr
  rcases (tk n).1 hn with rfl|hn
  ·exact absurd hr kn
  ·exact lr.top n hn hr
 ·intro n hn hr
  rcases (tk n).1 hn with rfl|hn
  ·have h1:=c3
   rw [V4] at h1
   obtain ⟨g1,g2,g3,_⟩:=get_at h1
   refine ⟨(dI L (cJ p).1).1,(tk _).2 (.inr (by rw [g2];exact List.getElem_mem g1)),g3,c4⟩
  ·obtain ⟨m,hm,h1,h2⟩:=lr.grown n hn hr
   exact ⟨m,(tk m).2 (.inr hm),h1,h2⟩
theorem Qo {L:List ae} (hs:nl L) {i:Nat} (hi:i<L.length) {y:ae} (hy:y.Path=(L[i]).Path) (n:ae):n∈L.set i y↔n=y∨(n∈L∧n.Path≠y.Path):=by
 constructor
 ·intro h
  obtain ⟨j,hj,rfl⟩:=List.mem_iff_getElem.1 h
  rw [List.length_set] at hj
  rw [List.getElem_set]
  by_cases NA:i=j
  ·subst NA;simp
  ·simp only [NA,if_false]
   refine .inr ⟨List.getElem_mem hj,fun e=>NA ?_⟩
   rw [hy] at e
   exact (Bq hs hj hi e).symm
 ·rintro (rfl|⟨h,cT⟩)
  ·exact List.mem_iff_getElem.2 ⟨i,by rw [List.length_set];exact hi,by simp⟩
  ·obtain ⟨j,hj,rfl⟩:=List.mem_iff_getElem.1 h
   have NA: ¬i=j:=fun e=>by subst e;exact cT hy.symm
   exact List.mem_iff_getElem.2 ⟨j,by rw [List.length_set];exact hj,by rw [List.getElem_set];simp [NA]⟩
theorem Sp {L:List ae} {i:Nat} (hi:i<L.length) {y:ae} (hy:y.Path=(L[i]).Path):(L.set i y).map (·.Path)=L.map (·.Path):=by
 rw [List.map_set]
 refine List.ext_getElem (by simp) fun k h1 h2=> ?_
 rw [List.getElem_set]
 by_cases hik:i=k
 ·subst hik;simp [hy]
 ·simp [hik]
theorem Sq {L M:List ae} (h:M.map (·.Path)=L.map (·.Path)) (hs:nl L):nl M:=by
 constructor
 ·intro n hn
  have:n.Path∈L.map (·.Path):=by rw [←h];exact List.mem_map.2 ⟨n,hn,rfl⟩
  obtain ⟨m,hm,e⟩:=List.mem_map.1 this
  rw [←e];exact hs.1 m hm
 ·have h1:(L.map (·.Path)).Pairwise fun a b=>mU (aL a) (aL b)=true:=List.pairwise_map.2 hs.2
  rw [←h] at h1
  exact List.pairwise_map.1 h1
theorem Qp {L:List ae} {p value:List UInt8} {version:Int} (h:Bs L p value version=0):(cg L p).2=0∧value.length≤1000∧(dI L p).1.Version<1000000000:=by
 unfold Bs at h
 by_cases h0:s6 L p version=0
 ·rw [if_pos h0] at h
  by_cases h1:(1000:Int)<(value.length:Int)
  ·simp [h1] at h
  ·rw [if_neg h1] at h
   by_cases h2:(1000000000:Int)≤(dI L p).1.Version
   ·simp [h2] at h
   ·exact ⟨Br h0,by omega,by omega⟩
 ·rw [if_neg h0] at h;exact absurd h h0
theorem DZ {L:List ae} (lr:gO L) (p value:List UInt8) (version:Int):gO (gZ L p value version).1:=by
 unfold gZ
 by_cases h:Bs L p value version=0
 rotate_left
 ·rw [if_neg h];exact lr
 rw [if_pos h]
 obtain ⟨c1,c2,c3⟩:=Qp h
 obtain ⟨g1,g2,g3,_⟩:=get_at c1
 have hx:(dI L p).1∈L:=by rw [g2];exact List.getElem_mem g1
 have hy:(KD (dI L p).1 value).Path=(L[(cg L p).1.toNat]).Path:=by rw [←g2];rfl
 have tk:=Qo lr.ord g1 hy
 have hold: ∀m∈L,∃m'∈L.set (cg L p).1.toNat (KD (dI L p).1 value),m'.Path=m.Path∧m'.bI=m.bI:=by
  intro m hm
  by_cases he:m.Path=(KD (dI L p).1 value).Path
  ·have:=V5 lr.ord hm hx he
   subst this
   exact ⟨_,(tk _).2 (.inl rfl),rfl,rfl⟩
  ·exact ⟨m,(tk m).2 (.inr ⟨hm,he⟩),rfl,rfl⟩
 have hfl:=lr.wu _ hx
 have kF: ∀n∈L.set (cg L p).1.toNat (KD (dI L p).1 value),∃m∈L,n.Path=m.Path∧n.bI=m.bI:=by
  intro n hn
  rcases (tk n).1 hn with rfl|⟨hn,_⟩
  ·exact ⟨_,hx,rfl,rfl⟩
  ·exact ⟨n,hn,rfl,rfl⟩
 refine ⟨by show (L.set _ _).length≤200;rw [List.length_set];exact lr.len,Sq (Sp g1 hy) lr.ord,?_,?_,?_,?_⟩
 ·obtain ⟨m,hm,hr⟩:=lr.root
  obtain ⟨m',h1,h2,_⟩:=hold m hm
  exact ⟨m',h1,by rw [h2,hr]⟩
 ·intro n hn
  rcases (tk n).1 hn with rfl|⟨hn,_⟩
  ·refine ⟨c2,?_,?_,hfl.2.2.2⟩
   ·show 0≤(dI L p).1.Version+1;omega
   ·show (dI L p).1.Version+1≤1000000000;omega
  ·exact lr.wu n hn
 ·intro n hn hr
  obtain ⟨m,hm,h1,h2⟩:=kF n hn
  rw [h2];exact lr.top m hm (by rw [←h1];exact hr)
 ·intro n hn hr
  obtain ⟨m,hm,h1,h2⟩:=kF n hn
  obtain ⟨q,hq,h3,h4⟩:=lr.grown m hm (by rw [←h1];exact hr)
  obtain ⟨q',h5,h6,h7⟩:=hold q hq
  exact ⟨q',h5,by rw [h6,h3,h1],by rw [h7,h4]⟩
theorem Jd {L:List ae} (hs:nl L) {i:Nat} (hi:i<L.length) (n:ae):n∈L.take i++L.drop (i+1)↔n∈L∧n.Path≠(L[i]).Path:=by
 rw [List.mem_append]
 constructor
 ·rintro (h|h)
  ·obtain ⟨j,hj,rfl⟩:=List.mem_iff_getElem.1 h
   rw [List.length_take] at hj
   rw [List.getElem_take]
   exact ⟨List.getElem_mem _,fun e=>by have:=Bq hs (by omega) hi e;omega⟩
  ·obtain ⟨j,hj,rfl⟩:=List.mem_iff_getElem.1 h
   rw [List.length_drop] at hj
   rw [List.getElem_drop]
   exact ⟨List.getElem_mem _,fun e=>by have:=Bq hs (by omega) hi e;omega⟩
 ·rintro ⟨h,cT⟩
  obtain ⟨j,hj,rfl⟩:=List.mem_iff_getElem.1 h
  rcases Nat.lt_trichotomy j i with h1|h1|h1
  ·exact .inl (List.mem_iff_getElem.2 ⟨j,by rw [List.length_take];omega,by rw [List.getElem_take]⟩)
  ·subst h1;exact absurd rfl cT
  ·exact .inr (List.mem_iff_getElem.2 ⟨j-(i+1),by rw [List.length_drop];omega,by rw [List.getElem_drop];congr 1;omega⟩)
theorem Qq {L:List ae} {p:List UInt8} {version:Int} (h:DL L p version=0):p≠[47]∧(cg L p).2=0∧lg L p=[]:=by
 unfold DL at h
 by_cases hp:p=[47]
 ·simp [hp] at h
 rw [if_neg hp] at h
 by_cases h0:s6 L p version=0
 ·rw [if_pos h0] at h
  by_cases hk:lg L p=[]
  ·exact ⟨hp,Br h0,hk⟩
  ·simp [hk] at h
 ·rw [if_neg h0] at h;exact absurd h h0
theorem Y8 {L:List ae} (lr:gO L) (p:List UInt8) (version:Int):gO (p0 L p version).1:=by
 unfold p0
 by_cases h:DL L p version=0
 rotate_left
 ·rw [if_neg h];exact lr
 rw [if_pos h]
 obtain ⟨c1,c2,c3⟩:=Qq h
 obtain ⟨g1,g2,g3,_⟩:=get_at c2
 rw [g2] at g3
 have tk:=Jd lr.ord g1
 rw [g3] at tk
 have fj:(L.take (cg L p).1.toNat++L.drop ((cg L p).1.toNat+1)).Sublist L:=by
  conv=>rhs;rw [←List.take_append_drop (cg L p).1.toNat L]
  exact (List.Sublist.refl _).append (by rw [List.drop_eq_getElem_cons g1];exact List.sublist_cons_self ..)
 refine ⟨Nat.le_trans fj.length_le lr.len,Qk fj lr.ord,?_,fun n hn=>lr.wu n (fj.subset hn),fun n hn=>lr.top n (fj.subset hn),fun n hn hr=> ?_⟩
 ·obtain ⟨m,hm,hr⟩:=lr.root
  exact ⟨m,(tk m).2 ⟨hm,by rw [hr];exact fun e=>c1 e.symm⟩,hr⟩
 ·obtain ⟨m,hm,h1,h2⟩:=lr.grown n (fj.subset hn) hr
  refine ⟨m,(tk m).2 ⟨hm,fun e=> ?_⟩,h1,h2⟩
  have Y2:Cq p n=true:=by
   unfold Cq
   rw [decide_eq_true_eq]
   exact ⟨(rU (lr.ord.1 n (fj.subset hn))).2 hr,by rw [←h1,e]⟩
  have:n∈L.filter (Cq p):=List.mem_filter.2 ⟨fj.subset hn,Y2⟩
  unfold lg at c3
  rw [List.map_eq_nil_iff] at c3
  rw [c3] at this;simp at this
theorem Y9 {L:List ae} (lr:gO L) {p value:List UInt8} {version:Int} (h:Bs L p value version=0):dI (gZ L p value version).1 p=(⟨p,value,(dI L p).1.Version+1,(dI L p).1.bI⟩,0)∧(dI L p).1.Version<1000000000∧0≤(dI L p).1.Version:=by
 have ho:=(DZ lr p value version).ord
 obtain ⟨c1,c2,c3⟩:=Qp h
 obtain ⟨g1,g2,g3,_⟩:=get_at c1
 have hfl:=lr.wu _ (List.getElem_mem g1)
 rw [←g2] at hfl
 refine ⟨?_,c3,hfl.2.1⟩
 have hN:KD (dI L p).1 value=⟨p,value,(dI L p).1.Version+1,(dI L p).1.bI⟩:=by unfold KD;rw [g3]
 rw [←hN]
 have:=get_mem ho (n:=KD (dI L p).1 value) (by
  unfold gZ
  rw [if_pos h]
  exact (Qo lr.ord g1 (by rw [←g2];rfl) _).2 (.inl rfl))
 have hp:(KD (dI L p).1 value).Path=p:=g3
 rw [hp] at this
 exact this
theorem Za {L:List ae} (lr:gO L) {p:List UInt8} {version:Int} (h:DL L p version=0):(dI (p0 L p version).1 p).2=6:=by
 obtain ⟨c1,c2,c3⟩:=Qq h
 obtain ⟨g1,g2,g3,_⟩:=get_at c2
 rw [g2] at g3
 have Dr:bk p=true:=(KC c2).1
 rw [Y5 (L:=(p0 L p version).1) (q:=p) (fun n hn e=>by
  unfold p0 at hn
  rw [if_pos h] at hn
  exact ((Jd lr.ord g1 n).1 hn).2 (by rw [e,g3])),Dr]
 rfl
theorem ag2 {L:List ae} {p value:List UInt8} {version:Int}:(gZ L p value version).2=Bs L p value version:=by
 unfold gZ
 by_cases h:Bs L p value version=0<;>simp [h]
theorem ag3 {L:List ae} {p:List UInt8} {version:Int}:(p0 L p version).2=DL L p version:=by
 unfold p0
 by_cases h:DL L p version=0<;>simp [h]
end Dn.S
