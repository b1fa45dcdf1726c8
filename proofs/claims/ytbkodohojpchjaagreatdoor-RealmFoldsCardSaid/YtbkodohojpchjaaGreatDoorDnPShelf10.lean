import Derived.Test.YtbkodohojpchjaaGreatDoorDnPShelf9
/-
  Shelves: a change changes just its node; ShelfJust. Conditions: none.
-/
set_option linter.unusedVariables false
set_option linter.unusedSimpArgs false
open List renaming mem_iff_getElem→c9,getElem_mem→sh,length_set→AI,getElem_set→AS,pairwise_map→AT,getElem_take→By,getElem_drop→BY,length_take→IN,length_drop→IS,mem_map→IT
open Go Dn
namespace Dn.S
theorem TT {L:List ah}(mR:ga L)(p value:List UInt8)(owner:Int):ga (jT L p value owner).1:=by
 unfold jT;by_cases h:eG L p value owner=0;rotate_left
 ·rw [if_neg h];exact mR
 rw [if_pos h];obtain ⟨c1,c2,c3,c4,c5,c6,c7⟩:=Kl h;have lP:=abC c2;have zS: ∀m,m∈Hf L ⟨p,value,0,owner⟩↔m=⟨p,value,0,owner⟩\/m∈L:=λm=>VB;have kl:p≠[47]:=λe=>by obtain ⟨m,hm,hr⟩:=mR.root;exact lP m hm (by rw [hr,e])
 refine ⟨by show (Hf _ _).length<=200;rw [aeY];omega,aeZ mR.ord c1 lP,?_,?_,?_,?_⟩
 ·obtain ⟨m,hm,hr⟩:=mR.root;exact ⟨m,(zS m).2 (.inr hm),hr⟩
 ·intro n hn;rcases (zS n).1 hn with rfl|hn
  ·exact ⟨c5,by simp,by simp,c6⟩
  ·exact mR.zf n hn
 ·intro n hn hr;rcases (zS n).1 hn with rfl|hn
  ·exact absurd hr kl
  ·exact mR.top n hn hr
 ·intro n hn hr;rcases (zS n).1 hn with rfl|hn
  ·have h1:=c3;rw [FI] at h1;obtain ⟨g1,g2,g3,_⟩:=get_at h1;refine ⟨(en L (cy p).1).1,(zS _).2 (.inr (by rw [g2];exact sh g1)),g3,c4⟩
  ·obtain ⟨m,hm,h1,h2⟩:=mR.grown n hn hr;exact ⟨m,(zS m).2 (.inr hm),h1,h2⟩
theorem ae1 {L:List ah}(hs:od L){i:Nat}(hi:i<L.length){y:ah}(hy:y.Path=(L[i]).Path)(n:ah):n∈L.set i y↔n=y\/(n∈L/\n.Path≠y.Path):=by
 constructor
 ·intro h;obtain ⟨j,hj,rfl⟩:=c9.1 h;rw [AI] at hj;rw [AS];by_cases RR:i=j
  ·subst RR;simp
  ·simp only [RR,if_false];refine .inr ⟨sh hj,λe=>RR ?_⟩;rw [hy] at e;exact (EE hs hj hi e).symm
 ·rintro (rfl|⟨h,dG⟩)
  ·exact c9.2 ⟨i,by rw [AI];exact hi,by simp⟩
  ·obtain ⟨j,hj,rfl⟩:=c9.1 h;have RR: ¬i=j:=λe=>by subst e;exact dG hy.symm
   exact c9.2 ⟨j,by rw [AI];exact hj,by rw [AS];simp [RR]⟩
theorem Xx {L:List ah}{i:Nat}(hi:i<L.length){y:ah}(hy:y.Path=(L[i]).Path):(L.set i y).map (·.Path)=L.map (·.Path):=by
 rw [List.map_set];refine List.ext_getElem (by simp) λk h1 h2=> ?_;rw [AS];by_cases hik:i=k
 ·subst hik;simp [hy]
 ·simp [hik]
theorem Xy {L M:List ah}(h:M.map (·.Path)=L.map (·.Path))(hs:od L):od M:=by
 constructor
 ·intro n hn;have:n.Path∈L.map (·.Path):=by rw [<-h];exact IT.2 ⟨n,hn,rfl⟩
  obtain ⟨m,hm,e⟩:=IT.1 this;rw [<-e];exact hs.1 m hm
 ·have h1:(L.map (·.Path)).Pairwise λa b=>oc (aH a) (aH b)=true:=AT.2 hs.2;rw [<-h] at h1;exact AT.1 h1
theorem ae2 {L:List ah}{p value:List UInt8}{version:Int}(h:TQ L p value version=0):(cr L p).2=0/\value.length<=1000/\(en L p).1.Version<1000000000:=by
 unfold TQ at h;by_cases h0:lN L p version=0
 ·rw [if_pos h0] at h;by_cases h1:(1000:Int)<(value.length:Int)
  ·simp [h1] at h
  ·rw [if_neg h1] at h;by_cases h2:(1000000000:Int)<=(en L p).1.Version
   ·simp [h2] at h
   ·exact ⟨EF h0,by omega,by omega⟩
 ·rw [if_neg h0] at h;exact absurd h h0
theorem OM {L:List ah}(mR:ga L)(p value:List UInt8)(version:Int):ga (xm L p value version).1:=by
 unfold xm;by_cases h:TQ L p value version=0;rotate_left
 ·rw [if_neg h];exact mR
 rw [if_pos h];obtain ⟨c1,c2,c3⟩:=ae2 h;obtain ⟨g1,g2,g3,_⟩:=get_at c1;have hx:(en L p).1∈L:=by rw [g2];exact sh g1
 have hy:(Xs (en L p).1 value).Path=(L[(cr L p).1.toNat]).Path:=by rw [<-g2];rfl
 have zS:=ae1 mR.ord g1 hy;have hold: ∀m∈L,∃m'∈L.set (cr L p).1.toNat (Xs (en L p).1 value),m'.Path=m.Path/\m'.b5=m.b5:=by
  intro m hm;by_cases he:m.Path=(Xs (en L p).1 value).Path
  ·have:=abB mR.ord hm hx he;subst this;exact ⟨_,(zS _).2 (.inl rfl),rfl,rfl⟩
  ·exact ⟨m,(zS m).2 (.inr ⟨hm,he⟩),rfl,rfl⟩
 have hfl:=mR.zf _ hx;have lP: ∀n∈L.set (cr L p).1.toNat (Xs (en L p).1 value),∃m∈L,n.Path=m.Path/\n.b5=m.b5:=by
  intro n hn;rcases (zS n).1 hn with rfl|⟨hn,_⟩
  ·exact ⟨_,hx,rfl,rfl⟩
  ·exact ⟨n,hn,rfl,rfl⟩
 refine ⟨by show (L.set _ _).length<=200;rw [AI];exact mR.len,Xy (Xx g1 hy) mR.ord,?_,?_,?_,?_⟩
 ·obtain ⟨m,hm,hr⟩:=mR.root;obtain ⟨m',h1,h2,_⟩:=hold m hm;exact ⟨m',h1,by rw [h2,hr]⟩
 ·intro n hn;rcases (zS n).1 hn with rfl|⟨hn,_⟩
  ·refine ⟨c2,?_,?_,hfl.2.2.2⟩
   ·show 0<=(en L p).1.Version+1;omega
   ·show (en L p).1.Version+1<=1000000000;omega
  ·exact mR.zf n hn
 ·intro n hn hr;obtain ⟨m,hm,h1,h2⟩:=lP n hn;rw [h2];exact mR.top m hm (by rw [<-h1];exact hr)
 ·intro n hn hr;obtain ⟨m,hm,h1,h2⟩:=lP n hn;obtain ⟨q,hq,h3,h4⟩:=mR.grown m hm (by rw [<-h1];exact hr);obtain ⟨q',h5,h6,h7⟩:=hold q hq;exact ⟨q',h5,by rw [h6,h3,h1],by rw [h7,h4]⟩
theorem Xz {L:List ah}(hs:od L){i:Nat}(hi:i<L.length)(n:ah):n∈L.take i++L.drop (i+1)↔n∈L/\n.Path≠(L[i]).Path:=by
 rw [List.mem_append];constructor
 ·rintro (h|h)
  ·obtain ⟨j,hj,rfl⟩:=c9.1 h;rw [IN] at hj;rw [By];exact ⟨sh _,λe=>by have:=EE hs (by omega) hi e;omega⟩
  ·obtain ⟨j,hj,rfl⟩:=c9.1 h;rw [IS] at hj;rw [BY];exact ⟨sh _,λe=>by have:=EE hs (by omega) hi e;omega⟩
 ·rintro ⟨h,dG⟩;obtain ⟨j,hj,rfl⟩:=c9.1 h;rcases Nat.lt_trichotomy j i with h1|h1|h1
  ·exact .inl (c9.2 ⟨j,by rw [IN];omega,by rw [By]⟩)
  ·subst h1;exact absurd rfl dG
  ·exact .inr (c9.2 ⟨j-(i+1),by rw [IS];omega,by rw [BY];congr 1;omega⟩)
theorem ae3 {L:List ah}{p:List UInt8}{version:Int}(h:TR L p version=0):p≠[47]/\(cr L p).2=0/\jI L p=[]:=by
 unfold TR at h;by_cases hp:p=[47]
 ·simp [hp] at h
 rw [if_neg hp] at h;by_cases h0:lN L p version=0
 ·rw [if_pos h0] at h;by_cases hk:jI L p=[]
  ·exact ⟨hp,EF h0,hk⟩
  ·simp [hk] at h
 ·rw [if_neg h0] at h;exact absurd h h0
theorem ae4 {L:List ah}(mR:ga L)(p:List UInt8)(version:Int):ga (yN L p version).1:=by
 unfold yN;by_cases h:TR L p version=0;rotate_left
 ·rw [if_neg h];exact mR
 rw [if_pos h];obtain ⟨c1,c2,c3⟩:=ae3 h;obtain ⟨g1,g2,g3,_⟩:=get_at c2;rw [g2] at g3;have zS:=Xz mR.ord g1;rw [g3] at zS;have gn:(L.take (cr L p).1.toNat++L.drop ((cr L p).1.toNat+1)).Sublist L:=by
  conv=>rhs;rw [<-List.take_append_drop (cr L p).1.toNat L]
  exact (List.Sublist.refl _).append (by rw [List.drop_eq_getElem_cons g1];exact List.sublist_cons_self ..)
 refine ⟨Nat.le_trans gn.length_le mR.len,Vz gn mR.ord,?_,λn hn=>mR.zf n (gn.subset hn),λn hn=>mR.top n (gn.subset hn),λn hn hr=> ?_⟩
 ·obtain ⟨m,hm,hr⟩:=mR.root;exact ⟨m,(zS m).2 ⟨hm,by rw [hr];exact λe=>c1 e.symm⟩,hr⟩
 ·obtain ⟨m,hm,h1,h2⟩:=mR.grown n (gn.subset hn) hr;refine ⟨m,(zS m).2 ⟨hm,λe=> ?_⟩,h1,h2⟩;have aeV:zu p n=true:=by unfold zu;rw [decide_eq_true_eq];exact ⟨(TN (mR.ord.1 n (gn.subset hn))).2 hr,by rw [<-h1,e]⟩
  have:n∈L.filter (zu p):=List.mem_filter.2 ⟨gn.subset hn,aeV⟩;unfold jI at c3;rw [List.map_eq_nil_iff] at c3;rw [c3] at this;simp at this
end Dn.S
