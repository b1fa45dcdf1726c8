import Derived.Test.YtbkodohojpchjaaGreatDoorDnPShelf9
/-
  Shelves: a change changes just its node; ShelfJust. Conditions: none.
-/
set_option linter.unusedVariables false
set_option linter.unusedSimpArgs false
open List renaming mem_iff_getElem→c8,getElem_mem→sh,length_set→AI,getElem_set→AS,pairwise_map→AT,getElem_take→By,getElem_drop→BY,length_take→IN,length_drop→IS,mem_map→IT
open Go Dn
namespace Dn.S
theorem Ud {L:List af}(kJ:fN L)(p value:List UInt8)(owner:Int):fN (jT L p value owner).1:=by
 unfold jT;by_cases h:eE L p value owner=0;rotate_left
 ·rw [if_neg h];exact kJ
 rw [if_pos h];obtain ⟨c1,c2,c3,c4,c5,c6,c7⟩:=Ki h;have lN:=abW c2;have vN: ∀m,m∈He L ⟨p,value,0,owner⟩↔m=⟨p,value,0,owner⟩\/m∈L:=λm=>VQ;have kc:p≠[47]:=λe=>by obtain ⟨m,hm,hr⟩:=kJ.root;exact lN m hm (by rw [hr,e])
 refine ⟨by show (He _ _).length<=200;rw [ae9];omega,afa kJ.ord c1 lN,?_,?_,?_,?_⟩
 ·obtain ⟨m,hm,hr⟩:=kJ.root;exact ⟨m,(vN m).2 (.inr hm),hr⟩
 ·intro n hn;rcases (vN n).1 hn with rfl|hn
  ·exact ⟨c5,by simp,by simp,c6⟩
  ·exact kJ.xC n hn
 ·intro n hn hr;rcases (vN n).1 hn with rfl|hn
  ·exact absurd hr kc
  ·exact kJ.top n hn hr
 ·intro n hn hr;rcases (vN n).1 hn with rfl|hn
  ·have h1:=c3;rw [FN] at h1;obtain ⟨g1,g2,g3,_⟩:=get_at h1;refine ⟨(eo L (bS p).1).1,(vN _).2 (.inr (by rw [g2];exact sh g1)),g3,c4⟩
  ·obtain ⟨m,hm,h1,h2⟩:=kJ.grown n hn hr;exact ⟨m,(vN m).2 (.inr hm),h1,h2⟩
theorem afc {L:List af}(hs:nm L){i:Nat}(hi:i<L.length){y:af}(hy:y.Path=(L[i]).Path)(n:af):n∈L.set i y↔n=y\/(n∈L/\n.Path≠y.Path):=by
 constructor
 ·intro h;obtain ⟨j,hj,rfl⟩:=c8.1 h;rw [AI] at hj;rw [AS];by_cases Nn:i=j
  ·subst Nn;simp
  ·simp only [Nn,if_false];refine .inr ⟨sh hj,λe=>Nn ?_⟩;rw [hy] at e;exact (EN hs hj hi e).symm
 ·rintro (rfl|⟨h,dG⟩)
  ·exact c8.2 ⟨i,by rw [AI];exact hi,by simp⟩
  ·obtain ⟨j,hj,rfl⟩:=c8.1 h;have Nn: ¬i=j:=λe=>by subst e;exact dG hy.symm
   exact c8.2 ⟨j,by rw [AI];exact hj,by rw [AS];simp [Nn]⟩
theorem XR {L:List af}{i:Nat}(hi:i<L.length){y:af}(hy:y.Path=(L[i]).Path):(L.set i y).map (·.Path)=L.map (·.Path):=by
 rw [List.map_set];refine List.ext_getElem (by simp) λk h1 h2=> ?_;rw [AS];by_cases hik:i=k
 ·subst hik;simp [hy]
 ·simp [hik]
theorem XS {L M:List af}(h:M.map (·.Path)=L.map (·.Path))(hs:nm L):nm M:=by
 constructor
 ·intro n hn;have:n.Path∈L.map (·.Path):=by rw [<-h];exact IT.2 ⟨n,hn,rfl⟩
  obtain ⟨m,hm,e⟩:=IT.1 this;rw [<-e];exact hs.1 m hm
 ·have h1:(L.map (·.Path)).Pairwise λa b=>nH (aE a) (aE b)=true:=AT.2 hs.2;rw [<-h] at h1;exact AT.1 h1
theorem afd {L:List af}{p value:List UInt8}{version:Int}(h:Ua L p value version=0):(cu L p).2=0/\value.length<=1000/\(eo L p).1.Version<1000000000:=by
 unfold Ua at h;by_cases h0:lL L p version=0
 ·rw [if_pos h0] at h;by_cases h1:(1000:Int)<(value.length:Int)
  ·simp [h1] at h
  ·rw [if_neg h1] at h;by_cases h2:(1000000000:Int)<=(eo L p).1.Version
   ·simp [h2] at h
   ·exact ⟨EO h0,by omega,by omega⟩
 ·rw [if_neg h0] at h;exact absurd h h0
theorem OP {L:List af}(kJ:fN L)(p value:List UInt8)(version:Int):fN (xx L p value version).1:=by
 unfold xx;by_cases h:Ua L p value version=0;rotate_left
 ·rw [if_neg h];exact kJ
 rw [if_pos h];obtain ⟨c1,c2,c3⟩:=afd h;obtain ⟨g1,g2,g3,_⟩:=get_at c1;have hx:(eo L p).1∈L:=by rw [g2];exact sh g1
 have hy:(XM (eo L p).1 value).Path=(L[(cu L p).1.toNat]).Path:=by rw [<-g2];rfl
 have vN:=afc kJ.ord g1 hy;have hold: ∀m∈L,∃m'∈L.set (cu L p).1.toNat (XM (eo L p).1 value),m'.Path=m.Path/\m'.bF=m.bF:=by
  intro m hm;by_cases he:m.Path=(XM (eo L p).1 value).Path
  ·have:=abV kJ.ord hm hx he;subst this;exact ⟨_,(vN _).2 (.inl rfl),rfl,rfl⟩
  ·exact ⟨m,(vN m).2 (.inr ⟨hm,he⟩),rfl,rfl⟩
 have hfl:=kJ.xC _ hx;have lN: ∀n∈L.set (cu L p).1.toNat (XM (eo L p).1 value),∃m∈L,n.Path=m.Path/\n.bF=m.bF:=by
  intro n hn;rcases (vN n).1 hn with rfl|⟨hn,_⟩
  ·exact ⟨_,hx,rfl,rfl⟩
  ·exact ⟨n,hn,rfl,rfl⟩
 refine ⟨by show (L.set _ _).length<=200;rw [AI];exact kJ.len,XS (XR g1 hy) kJ.ord,?_,?_,?_,?_⟩
 ·obtain ⟨m,hm,hr⟩:=kJ.root;obtain ⟨m',h1,h2,_⟩:=hold m hm;exact ⟨m',h1,by rw [h2,hr]⟩
 ·intro n hn;rcases (vN n).1 hn with rfl|⟨hn,_⟩
  ·refine ⟨c2,?_,?_,hfl.2.2.2⟩
   ·show 0<=(eo L p).1.Version+1;omega
   ·show (eo L p).1.Version+1<=1000000000;omega
  ·exact kJ.xC n hn
 ·intro n hn hr;obtain ⟨m,hm,h1,h2⟩:=lN n hn;rw [h2];exact kJ.top m hm (by rw [<-h1];exact hr)
 ·intro n hn hr;obtain ⟨m,hm,h1,h2⟩:=lN n hn;obtain ⟨q,hq,h3,h4⟩:=kJ.grown m hm (by rw [<-h1];exact hr);obtain ⟨q',h5,h6,h7⟩:=hold q hq;exact ⟨q',h5,by rw [h6,h3,h1],by rw [h7,h4]⟩
theorem XT {L:List af}(hs:nm L){i:Nat}(hi:i<L.length)(n:af):n∈L.take i++L.drop (i+1)↔n∈L/\n.Path≠(L[i]).Path:=by
 rw [List.mem_append];constructor
 ·rintro (h|h)
  ·obtain ⟨j,hj,rfl⟩:=c8.1 h;rw [IN] at hj;rw [By];exact ⟨sh _,λe=>by have:=EN hs (by omega) hi e;omega⟩
  ·obtain ⟨j,hj,rfl⟩:=c8.1 h;rw [IS] at hj;rw [BY];exact ⟨sh _,λe=>by have:=EN hs (by omega) hi e;omega⟩
 ·rintro ⟨h,dG⟩;obtain ⟨j,hj,rfl⟩:=c8.1 h;rcases Nat.lt_trichotomy j i with h1|h1|h1
  ·exact .inl (c8.2 ⟨j,by rw [IN];omega,by rw [By]⟩)
  ·subst h1;exact absurd rfl dG
  ·exact .inr (c8.2 ⟨j-(i+1),by rw [IS];omega,by rw [BY];congr 1;omega⟩)
theorem afe {L:List af}{p:List UInt8}{version:Int}(h:Ub L p version=0):p≠[47]/\(cu L p).2=0/\jE L p=[]:=by
 unfold Ub at h;by_cases hp:p=[47]
 ·simp [hp] at h
 rw [if_neg hp] at h;by_cases h0:lL L p version=0
 ·rw [if_pos h0] at h;by_cases hk:jE L p=[]
  ·exact ⟨hp,EO h0,hk⟩
  ·simp [hk] at h
 ·rw [if_neg h0] at h;exact absurd h h0
theorem aff {L:List af}(kJ:fN L)(p:List UInt8)(version:Int):fN (yZ L p version).1:=by
 unfold yZ;by_cases h:Ub L p version=0;rotate_left
 ·rw [if_neg h];exact kJ
 rw [if_pos h];obtain ⟨c1,c2,c3⟩:=afe h;obtain ⟨g1,g2,g3,_⟩:=get_at c2;rw [g2] at g3;have vN:=XT kJ.ord g1;rw [g3] at vN;have gp:(L.take (cu L p).1.toNat++L.drop ((cu L p).1.toNat+1)).Sublist L:=by
  conv=>rhs;rw [<-List.take_append_drop (cu L p).1.toNat L]
  exact (List.Sublist.refl _).append (by rw [List.drop_eq_getElem_cons g1];exact List.sublist_cons_self ..)
 refine ⟨Nat.le_trans gp.length_le kJ.len,VO gp kJ.ord,?_,λn hn=>kJ.xC n (gp.subset hn),λn hn=>kJ.top n (gp.subset hn),λn hn hr=> ?_⟩
 ·obtain ⟨m,hm,hr⟩:=kJ.root;exact ⟨m,(vN m).2 ⟨hm,by rw [hr];exact λe=>c1 e.symm⟩,hr⟩
 ·obtain ⟨m,hm,h1,h2⟩:=kJ.grown n (gp.subset hn) hr;refine ⟨m,(vN m).2 ⟨hm,λe=> ?_⟩,h1,h2⟩;have ae5:zI p n=true:=by unfold zI;rw [decide_eq_true_eq];exact ⟨(uw (kJ.ord.1 n (gp.subset hn))).2 hr,by rw [<-h1,e]⟩
  have:n∈L.filter (zI p):=List.mem_filter.2 ⟨gp.subset hn,ae5⟩;unfold jE at c3;rw [List.map_eq_nil_iff] at c3;rw [c3] at this;simp at this
end Dn.S
