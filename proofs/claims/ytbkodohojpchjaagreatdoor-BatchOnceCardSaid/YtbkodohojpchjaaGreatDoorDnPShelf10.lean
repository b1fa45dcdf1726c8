import Derived.Test.YtbkodohojpchjaaGreatDoorDnPShelf9
/- Shelves: a change changes just its node; ShelfJust. Conditions: none. -/
set_option linter.unusedVariables false
set_option linter.unusedSimpArgs false
open List renaming mem_iff_getElem→bN,getElem_mem→sh,length_set→AI,getElem_set→AS,pairwise_map→AT,getElem_take→By,getElem_drop→BY,length_take→IN,length_drop→IT,mem_map→No
open Go Dn
namespace Dn.S
theorem SY {L:List af}(oT:kL L)(p value:List UInt8)(owner:Int):kL (vi L p value owner).1:=by
 unfold vi;by_cases h:qG L p value owner=0;rotate_left
 ·rw [if_neg h];exact oT
 rw [if_pos h];obtain ⟨c1,c2,c3,c4,c5,c6,c7⟩:=JV h;have jC:=amg c2;have zZ: ∀m,m∈Lc L ⟨p,value,0,owner⟩↔m=⟨p,value,0,owner⟩\/m∈L:=λm=>UP;have lr:p≠[47]:=λe=>by obtain ⟨m,hm,hr⟩:=oT.root;exact jC m hm (by rw [hr,e])
 refine ⟨by show (Lc _ _).length<=200;rw [aet];omega,aeu oT.ord c1 jC,?_,?_,?_,?_⟩
 ·obtain ⟨m,hm,hr⟩:=oT.root;exact ⟨m,(zZ m).2 (.inr hm),hr⟩
 ·intro n hn;rcases (zZ n).1 hn with rfl|hn
  ·exact ⟨c5,by simp,by simp,c6⟩
  ·exact oT.yS n hn
 ·intro n hn hr;rcases (zZ n).1 hn with rfl|hn
  ·exact absurd hr lr
  ·exact oT.top n hn hr
 ·intro n hn hr;rcases (zZ n).1 hn with rfl|hn
  ·have h1:=c3;rw [ahU] at h1;obtain ⟨g1,g2,g3,_⟩:=get_at h1;refine ⟨(lq L (fB p).1).1,(zZ _).2 (.inr (by rw [g2];exact sh g1)),g3,c4⟩
  ·obtain ⟨m,hm,h1,h2⟩:=oT.grown n hn hr;exact ⟨m,(zZ m).2 (.inr hm),h1,h2⟩
theorem aev {L:List af}(hs:rI L){i:Nat}(hi:i<L.length){y:af}(hy:y.Path=(L[i]).Path)(n:af):n∈L.set i y↔n=y\/(n∈L/\n.Path≠y.Path):=by
 constructor
 ·intro h;obtain ⟨j,hj,rfl⟩:=bN.1 h;rw [AI] at hj;rw [AS];by_cases Tw:i=j
  ·subst Tw;simp
  ·simp only [Tw,if_false];refine .inr ⟨sh hj,λe=>Tw ?_⟩;rw [hy] at e;exact (GY hs hj hi e).symm
 ·rintro (rfl|⟨h,cR⟩)
  ·exact bN.2 ⟨i,by rw [AI];exact hi,by simp⟩
  ·obtain ⟨j,hj,rfl⟩:=bN.1 h;have Tw: ¬i=j:=λe=>by subst e;exact cR hy.symm
   exact bN.2 ⟨j,by rw [AI];exact hj,by rw [AS];simp [Tw]⟩
theorem WQ {L:List af}{i:Nat}(hi:i<L.length){y:af}(hy:y.Path=(L[i]).Path):(L.set i y).map (·.Path)=L.map (·.Path):=by
 rw [List.map_set];refine List.ext_getElem (by simp) λk h1 h2=> ?_;rw [AS];by_cases hik:i=k
 ·subst hik;simp [hy]
 ·simp [hik]
theorem WR {L M:List af}(h:M.map (·.Path)=L.map (·.Path))(hs:rI L):rI M:=by
 constructor
 ·intro n hn;have:n.Path∈L.map (·.Path):=by rw [<-h];exact No.2 ⟨n,hn,rfl⟩
  obtain ⟨m,hm,e⟩:=No.1 this;rw [<-e];exact hs.1 m hm
 ·have h1:(L.map (·.Path)).Pairwise λa b=>rG (aT a) (aT b)=true:=AT.2 hs.2;rw [<-h] at h1;exact AT.1 h1
theorem aew {L:List af}{p value:List UInt8}{version:Int}(h:Qc L p value version=0):(dh L p).2=0/\value.length<=1000/\(lq L p).1.Version<1000000000:=by
 unfold Qc at h;by_cases h0:yO L p version=0
 ·rw [if_pos h0] at h;by_cases h1:(1000:Int)<(value.length:Int)
  ·simp [h1] at h
  ·rw [if_neg h1] at h;by_cases h2:(1000000000:Int)<=(lq L p).1.Version
   ·simp [h2] at h
   ·exact ⟨DQ h0,by omega,by omega⟩
 ·rw [if_neg h0] at h;exact absurd h h0
theorem UR {L:List af}(oT:kL L)(p value:List UInt8)(version:Int):kL (DR L p value version).1:=by
 unfold DR;by_cases h:Qc L p value version=0;rotate_left
 ·rw [if_neg h];exact oT
 rw [if_pos h];obtain ⟨c1,c2,c3⟩:=aew h;obtain ⟨g1,g2,g3,_⟩:=get_at c1;have hx:(lq L p).1∈L:=by rw [g2];exact sh g1
 have hy:(aa7 (lq L p).1 value).Path=(L[(dh L p).1.toNat]).Path:=by rw [<-g2];rfl
 have zZ:=aev oT.ord g1 hy;have hold: ∀m∈L,∃m'∈L.set (dh L p).1.toNat (aa7 (lq L p).1 value),m'.Path=m.Path/\m'.dw=m.dw:=by
  intro m hm;by_cases he:m.Path=(aa7 (lq L p).1 value).Path
  ·have:=aa5 oT.ord hm hx he;subst this;exact ⟨_,(zZ _).2 (.inl rfl),rfl,rfl⟩
  ·exact ⟨m,(zZ m).2 (.inr ⟨hm,he⟩),rfl,rfl⟩
 have hfl:=oT.yS _ hx;have jC: ∀n∈L.set (dh L p).1.toNat (aa7 (lq L p).1 value),∃m∈L,n.Path=m.Path/\n.dw=m.dw:=by
  intro n hn;rcases (zZ n).1 hn with rfl|⟨hn,_⟩
  ·exact ⟨_,hx,rfl,rfl⟩
  ·exact ⟨n,hn,rfl,rfl⟩
 refine ⟨by show (L.set _ _).length<=200;rw [AI];exact oT.len,WR (WQ g1 hy) oT.ord,?_,?_,?_,?_⟩
 ·obtain ⟨m,hm,hr⟩:=oT.root;obtain ⟨m',h1,h2,_⟩:=hold m hm;exact ⟨m',h1,by rw [h2,hr]⟩
 ·intro n hn;rcases (zZ n).1 hn with rfl|⟨hn,_⟩
  ·refine ⟨c2,?_,?_,hfl.2.2.2⟩
   ·show 0<=(lq L p).1.Version+1;omega
   ·show (lq L p).1.Version+1<=1000000000;omega
  ·exact oT.yS n hn
 ·intro n hn hr;obtain ⟨m,hm,h1,h2⟩:=jC n hn;rw [h2];exact oT.top m hm (by rw [<-h1];exact hr)
 ·intro n hn hr;obtain ⟨m,hm,h1,h2⟩:=jC n hn;obtain ⟨q,hq,h3,h4⟩:=oT.grown m hm (by rw [<-h1];exact hr);obtain ⟨q',h5,h6,h7⟩:=hold q hq;exact ⟨q',h5,by rw [h6,h3,h1],by rw [h7,h4]⟩
theorem WS {L:List af}(hs:rI L){i:Nat}(hi:i<L.length)(n:af):n∈L.take i++L.drop (i+1)↔n∈L/\n.Path≠(L[i]).Path:=by
 rw [List.mem_append];constructor
 ·rintro (h|h)
  ·obtain ⟨j,hj,rfl⟩:=bN.1 h;rw [IN] at hj;rw [By];exact ⟨sh _,λe=>by have:=GY hs (by omega) hi e;omega⟩
  ·obtain ⟨j,hj,rfl⟩:=bN.1 h;rw [IT] at hj;rw [BY];exact ⟨sh _,λe=>by have:=GY hs (by omega) hi e;omega⟩
 ·rintro ⟨h,cR⟩;obtain ⟨j,hj,rfl⟩:=bN.1 h;rcases Nat.lt_trichotomy j i with h1|h1|h1
  ·exact .inl (bN.2 ⟨j,by rw [IN];omega,by rw [By]⟩)
  ·subst h1;exact absurd rfl cR
  ·exact .inr (bN.2 ⟨j-(i+1),by rw [IT];omega,by rw [BY];congr 1;omega⟩)
theorem aex {L:List af}{p:List UInt8}{version:Int}(h:WM L p version=0):p≠[47]/\(dh L p).2=0/\mu L p=[]:=by
 unfold WM at h;by_cases hp:p=[47]
 ·simp [hp] at h
 rw [if_neg hp] at h;by_cases h0:yO L p version=0
 ·rw [if_pos h0] at h;by_cases hk:mu L p=[]
  ·exact ⟨hp,DQ h0,hk⟩
  ·simp [hk] at h
 ·rw [if_neg h0] at h;exact absurd h h0
theorem aey {L:List af}(oT:kL L)(p:List UInt8)(version:Int):kL (Ot L p version).1:=by
 unfold Ot;by_cases h:WM L p version=0;rotate_left
 ·rw [if_neg h];exact oT
 rw [if_pos h];obtain ⟨c1,c2,c3⟩:=aex h;obtain ⟨g1,g2,g3,_⟩:=get_at c2;rw [g2] at g3;have zZ:=WS oT.ord g1;rw [g3] at zZ;have eZ:(L.take (dh L p).1.toNat++L.drop ((dh L p).1.toNat+1)).Sublist L:=by
  conv=>rhs;rw [<-List.take_append_drop (dh L p).1.toNat L]
  exact (List.Sublist.refl _).append (by rw [List.drop_eq_getElem_cons g1];exact List.sublist_cons_self ..)
 refine ⟨Nat.le_trans eZ.length_le oT.len,UN eZ oT.ord,?_,λn hn=>oT.yS n (eZ.subset hn),λn hn=>oT.top n (eZ.subset hn),λn hn hr=> ?_⟩
 ·obtain ⟨m,hm,hr⟩:=oT.root;exact ⟨m,(zZ m).2 ⟨hm,by rw [hr];exact λe=>c1 e.symm⟩,hr⟩
 ·obtain ⟨m,hm,h1,h2⟩:=oT.grown n (eZ.subset hn) hr;refine ⟨m,(zZ m).2 ⟨hm,λe=> ?_⟩,h1,h2⟩;have aer:EV p n=true:=by unfold EV;rw [decide_eq_true_eq];exact ⟨(SW (oT.ord.1 n (eZ.subset hn))).2 hr,by rw [<-h1,e]⟩
  have:n∈L.filter (EV p):=List.mem_filter.2 ⟨eZ.subset hn,aer⟩;unfold mu at c3;rw [List.map_eq_nil_iff] at c3;rw [c3] at this;simp at this
end Dn.S
