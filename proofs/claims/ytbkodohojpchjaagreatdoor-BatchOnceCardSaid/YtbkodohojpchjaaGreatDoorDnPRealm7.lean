import Derived.Test.YtbkodohojpchjaaGreatDoorDnPRealm6
/- Realms: an order that was answered is answered alike. Conditions: none. -/
set_option linter.unusedVariables false
set_option linter.unusedSimpArgs false
open Nat renaming zero_le→bN
open List renaming mem_iff_getElem→sh,getElem?_eq_getElem→AI,length_cons→AS,length_set→AT,length_append→By,getElem_set→BY,getElem_mem→IN,length_nil→IT
open Go Dn
namespace Dn.S
theorem UY (w:ah)(k:Int):(vY k w).x=w.x:=by unfold vY;split<;>rfl
theorem abv {w:ah}(hp:eA w.r)(h:w.x.Names.length<=1000):(S5 w).x.Names.length<=1000:=by
 have hs:=hp.shelf.len;unfold S5;split
 ·exact h
 split
 ·unfold Bc;split
  ·exact h
  ·rw [UY];exact h
 split
 ·exact h
 split
 ·unfold WY QO;split
  ·show (vY 2 _).x.Names.length<=1000;rw [UY];exact h
  ·rw [UY];exact h
 split
 ·unfold GZ;rw [UY];exact h
 split
 ·have:=WJ w.r.Shelf.L w.o.Path;show (JT w.r.Shelf.L w.o.Path).1.length<=1000;omega
 split
 ·exact h
 split
 ·exact h
 split
 ·unfold EZ;split<;>exact h
 split
 ·unfold MP;split
  ·rename_i he;obtain ⟨h1,h2,h3,h4,h5,h6⟩:=AA (BS w.r.ca w.o.Span) (v:=Ay w) (od hp (Oz hp.book he));rw [h3];exact h
  ·exact h
 ·exact h
theorem J6 {L:List ae}(hs:rF kh L){c:Int}{x:ae}(hx:x.Client=c)(y:ae):y∈yQ L c x↔y=x\/(y∈L/\y.Client≠c):=by
 unfold yQ;subst hx;cases hh:kY kh L x.Client with
 |false=>
  rw [if_neg (by decide),Oy];constructor
  ·rintro (h|h)
   ·refine .inr ⟨h,λhe=> ?_⟩;have:kY kh L x.Client=true:=DN.2 ⟨y,h,he⟩;rw [hh] at this;cases this
   ·exact .inl h
  ·rintro (h|⟨h,_⟩)
   ·exact .inr h
   ·exact .inl h
 |true=>
  obtain ⟨hk,he⟩:=(hs.has x.Client).1 hh;rw [if_pos rfl];have cR: ∀j (hj:j<L.length),j≠qF kh L x.Client->L[j].Client≠x.Client:=by
   intro j hj hjn hjc;have he:L[qF kh L x.Client].Client=x.Client:=he;rcases Nat.lt_or_gt_of_ne hjn with cI|cI
   ·have h5:L[j].Client<L[qF kh L x.Client].Client:=hs.lt hk cI;omega
   ·have h5:L[qF kh L x.Client].Client<L[j].Client:=hs.lt hj cI;omega
  rw [sh];constructor
  ·rintro ⟨j,hj,rfl⟩;rw [AT] at hj;rw [BY];split
   ·exact .inl rfl
   ·rename_i hjn;exact .inr ⟨IN hj,cR j hj (λh=>hjn h.symm)⟩
  ·rintro (rfl|⟨hy,hyc⟩)
   ·exact ⟨qF kh L y.Client,by rw [AT];exact hk,by rw [List.getElem_set_self]⟩
   ·obtain ⟨j,hj,rfl⟩:=sh.1 hy;refine ⟨j,by rw [AT];exact hj,?_⟩;rw [BY,if_neg];intro hjn;subst hjn;exact hyc he
theorem OE {L:List ae}(hs:rF kh L){y:ae}(hy:y∈L):fe L y.Client=(y,true):=by
 have hh:kY kh L y.Client=true:=DN.2 ⟨y,hy,rfl⟩;obtain ⟨hk,he⟩:=(hs.has y.Client).1 hh;unfold fe;rw [hh,if_pos rfl,AI hk];obtain ⟨j,hj,rfl⟩:=sh.1 hy;have hjk:j=qF kh L L[j].Client:=by
  have he:L[qF kh L L[j].Client].Client=L[j].Client:=he;rcases Nat.lt_trichotomy j (qF kh L L[j].Client) with cI|jK|cI
  ·have h5:L[j].Client<L[qF kh L L[j].Client].Client:=hs.lt hk cI;omega
  ·exact jK
  ·have h5:L[qF kh L L[j].Client].Client<L[j].Client:=hs.lt hj cI;omega
 congr 1;show L[qF kh L L[j].Client]=L[j];congr 1;exact hjk.symm
theorem QS {L:List ae}{c:Int}(h: ∀y∈L,y.Client≠c):fe L c=(noR,false):=by
 unfold fe;cases hh:kY kh L c with
 |false=>rfl
 |true=>obtain ⟨y,hy,he⟩:=DN.1 hh;exact absurd he (h y hy)
theorem QT {L:List ae}{c:Int}(hs:rF kh L)(h:(fe L c).2=true):(fe L c).1∈L/\(fe L c).1.Client=c:=by
 unfold fe at h⊢;cases hh:kY kh L c with
 |false=>rw [hh] at h;cases h
 |true=>obtain ⟨hk,he⟩:=(hs.has c).1 hh;rw [if_pos rfl,AI hk];exact ⟨IN hk,he⟩
theorem S7 {L M:List ae}(hs:rF kh L)(hm:rF kh M) {c c':Int}(h: ∀y:ae,y.Client≠c->(y∈M↔y∈L))(hc:c'≠c):fe M c'=fe L c':=by
 cases hl:(fe L c').2 with
 |true=>obtain ⟨h1,h2⟩:=QT hs hl;have h3:=(h _ (by rw [h2];exact hc)).2 h1;have h4:=OE hm h3;rw [h2] at h4;rw [h4];exact Prod.ext rfl hl.symm
 |false=>
  have Vv: ∀y∈L,y.Client≠c':=λy hy he=>by have:=OE hs hy;rw [he] at this;rw [this] at hl;cases hl
  rw [QS Vv,QS λy hy he=>Vv y ((h y (by rw [he];exact hc)).1 hy) he]
theorem J7 {r:al}(h:dQ r)(o:aa){c:Int}(hc:c≠o.Client):fe (cK r o).1.Seen c=fe r.Seen c:=by
 have oT:=re h o;unfold cK at oT⊢;cases hk:(dp r.Seen o).2 with
 |true=>rfl
 |false=>
  rw [hk,if_neg (by decide)] at oT;rw [if_neg (by decide)];obtain ⟨hm,zo,CE,sv⟩:=sH hk;have hd:Az ⟨r,o,(dp r.Seen o).1,[]⟩ (jA r o):=QP (w:=⟨r,o,(dp r.Seen o).1,[]⟩) h.toeA;have Us:(jA r o).x.Client=o.Client:=by rw [hd.eF,zo];rfl
  refine S7 (c:=o.Client) h.inc oT.inc (λy hy=> ?_) hc;show y∈yQ r.Seen o.Client (jA r o).x↔_;rw [J6 h.inc Us];exact ⟨λh=>h.elim (λhe=>absurd (by rw [he];exact Us) hy) (λh=>h.1),λh=> .inr ⟨h,hy⟩⟩
theorem QU {r:al}(h:dQ r)(hn:OD r)(o:aa):OD (cK r o).1/\(cK r o).2.1.Names.length<=1000:=by
 have hkn:(dp r.Seen o).1.Names.length<=1000:=by
  unfold dp;split
  ·exact bN _
  split
  ·rename_i hl;split
   ·exact hn _ (QT h.inc hl).1
   split
   ·exact bN _
   ·exact bN _
  ·split
   ·exact bN _
   ·exact bN _
 unfold cK;cases hk:(dp r.Seen o).2 with
 |true=>exact ⟨hn,hkn⟩
 |false=>
  rw [if_neg (by decide)];obtain ⟨hm,zo,CE,sv⟩:=sH hk;have hd:Az ⟨r,o,(dp r.Seen o).1,[]⟩ (jA r o):=QP (w:=⟨r,o,(dp r.Seen o).1,[]⟩) h.toeA;have Us:(jA r o).x.Client=o.Client:=by rw [hd.eF,zo];rfl
  have hx:(jA r o).x.Names.length<=1000:=abv (w:=⟨r,o,(dp r.Seen o).1,[]⟩) h.toeA hkn;refine ⟨λy hy=> ?_,hx⟩;rcases (J6 h.inc Us y).1 hy with rfl|⟨hy,_⟩
  ·exact hx
  ·exact hn y hy
theorem J8 (l:List aa): ∀{r:al},dQ r->OD r->OD (MR r l):=by
 unfold MR;induction l with
 |nil=>intro r h hn;exact hn
 |cons o l ih=>intro r h hn;exact ih (re h o) (QU h hn o).1
noncomputable def rf (st:al×List ae×List a7)(o:aa):al×List ae×List a7:=((cK st.1 o).1,st.2.1++[(cK st.1 o).2.1],st.2.2++(cK st.1 o).2.2)
noncomputable def fZ (r:al)(l:List aa):al×List ae×List a7:=l.foldl rf (r,[],[])
theorem wZ (l:List aa): ∀{st:al×List ae×List a7},dQ st.1->(l.foldl rf st).1=MR st.1 l/\dQ (l.foldl rf st).1/\(l.foldl rf st).2.1.length=st.2.1.length+l.length/\(l.foldl rf st).2.2.length<=st.2.2.length+200 *l.length:=by
 induction l with
 |nil=>intro st h;exact ⟨rfl,h,rfl,by simp⟩
 |cons o l ih=>
  intro st h;have GL:(cK st.1 o).2.2.length<=200:=by
   have:=(J5 h o).2.2;have:=h.table.len;rcases (J5 h o).2.2 with h|⟨h,_⟩
   ·omega
   ·rw [h];exact bN _
  obtain ⟨h1,h2,h3,h4⟩:=ih (st:=rf st o) (re h o);rw [List.foldl_cons];refine ⟨h1,h2,?_,?_⟩
  ·rw [h3];unfold rf;dsimp only;simp only [By,AS,IT];omega
  ·refine Nat.le_trans h4 ?_;unfold rf;dsimp only;rw [By,AS];omega
def abw (s:al×List ae×List a7)(k:Int):(List af)×Int×(List aw)×(List ar)×(List ae)×(List ae)×(List a7)×Int:=(s.1.Shelf.L,s.1.ca.iT,s.1.ca.L,s.1.bJ.L,s.1.Seen,s.2.1,s.2.2,k)
theorem J9 {r:al}(h:dQ r)(l:List aa)(hl:l.length<=1000):qd r l=some (fZ r l):=by
 unfold qd;have ke:Loop (pc l) (abw (r,[],[]) 0)=some ((fZ r l).1.Shelf.L,(fZ r l).1.ca.iT,(fZ r l).1.ca.L,(fZ r l).1.bJ.L,(fZ r l).1.Seen,(fZ r l).2.1,(fZ r l).2.2):=by
  refine bG.eq (bG.count (λk=>abw (fZ r (l.take k)) (k:Int)) l.length (λ_=>True) rfl trivial (λk hk _=> ?_) (λ_=> ?_))
  ·have hs:fZ r (l.take (k+1))=rf (fZ r (l.take k)) l[k]:=Cv hk;rw [hs];obtain ⟨h1,h2,h3,h4⟩:=wZ (l.take k) (st:=(r,[],[])) h;have h3:(fZ r (l.take k)).2.1.length=0+(l.take k).length:=h3;have h4:(fZ r (l.take k)).2.2.length<=0+200 *(l.take k).length:=h4;have h2:dQ (fZ r (l.take k)).1:=h2;rw [List.length_take] at h3 h4;generalize fZ r (l.take k)=s at h2 h3 h4;have ha:=Xd h2 l[k];have GL:(cK s.1 l[k]).2.2.length<=200:=by
    have:=h2.table.len;rcases (J5 h2 l[k]).2.2 with h|⟨h,_⟩
    ·omega
    ·rw [h];exact bN _
   unfold pc abw;dsimp only;rw [if_pos (by omega),b7 hk];refine bG.of (a:=Sum.inl (abw (rf s l[k]) ((k+1:Nat):Int))) (dZ ha ?_) ?_;rotate_left
   ·exact ⟨rfl,trivial⟩
   rw [az,if_pos (by simp only [AS,IT];omega),if_pos (by omega),wrap64 (by omega) (by omega)];rfl
  ·unfold pc abw;dsimp only;rw [if_neg (by omega),List.take_length];exact .mk rfl
 exact dZ ke rfl
theorem QV {r:al}{o:aa}{x:ae}(h:dp r.Seen o=(x,true)):cK r o=(r,x,[]):=by unfold cK;rw [h];rfl
end Dn.S
