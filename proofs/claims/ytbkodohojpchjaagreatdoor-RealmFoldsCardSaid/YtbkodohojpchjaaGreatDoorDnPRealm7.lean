import Derived.Test.YtbkodohojpchjaaGreatDoorDnPRealm6
/-
  Realms: an order that was answered is answered alike. Conditions: none.
-/
set_option linter.unusedVariables false
set_option linter.unusedSimpArgs false
open List renaming mem_iff_getElem→c9,getElem?_eq_getElem→sh,length_cons→AI,length_set→AS,length_append→AT,getElem_set→By,getElem_mem→BY,length_nil→IN
open Nat renaming zero_le→IS
open Go Dn
namespace Dn.S
theorem OU (x:ai)(h:x.Names.length<2^60):Ag (kh x) (kh x)=some true:=by unfold Ag;rw [if_pos rfl,if_pos rfl,if_pos rfl,if_pos rfl,if_pos rfl,show (kh x).Names=x.Names from rfl,TD _ _ h,decide_eq_true rfl];rfl
theorem MP (w:aj)(k:Int):(sd k w).x=w.x:=by unfold sd;split<;>rfl
theorem abY {L:List ai}(hs:rL iD L){c:Int}{x:ai}(hx:x.Client=c)(y:ai):y∈zd L c x↔y=x\/(y∈L/\y.Client≠c):=by
 unfold zd;subst hx;cases hh:fP iD L x.Client with
 |false=>
  rw [if_neg (by decide),OQ];constructor
  ·rintro (h|h)
   ·refine .inr ⟨h,λhe=> ?_⟩;have:fP iD L x.Client=true:=pH.2 ⟨y,h,he⟩;rw [hh] at this;cases this
   ·exact .inl h
  ·rintro (h|⟨h,_⟩)
   ·exact .inr h
   ·exact .inl h
 |true=>
  obtain ⟨hk,he⟩:=(hs.has x.Client).1 hh;rw [if_pos rfl];have dG: ∀j (hj:j<L.length),j≠nj iD L x.Client->L[j].Client≠x.Client:=by
   intro j hj hjn hjc;have he:L[nj iD L x.Client].Client=x.Client:=he;rcases Nat.lt_or_gt_of_ne hjn with dY|dY
   ·have h5:L[j].Client<L[nj iD L x.Client].Client:=hs.lt hk dY;omega
   ·have h5:L[nj iD L x.Client].Client<L[j].Client:=hs.lt hj dY;omega
  rw [c9];constructor
  ·rintro ⟨j,hj,rfl⟩;rw [AS] at hj;rw [By];split
   ·exact .inl rfl
   ·rename_i hjn;exact .inr ⟨BY hj,dG j hj (λh=>hjn h.symm)⟩
  ·rintro (rfl|⟨hy,hyc⟩)
   ·exact ⟨nj iD L y.Client,by rw [AS];exact hk,by rw [List.getElem_set_self]⟩
   ·obtain ⟨j,hj,rfl⟩:=c9.1 hy;refine ⟨j,by rw [AS];exact hj,?_⟩;rw [By,if_neg];intro hjn;subst hjn;exact hyc he
theorem afi {L:List ai}(hs:rL iD L){y:ai}(hy:y∈L):fQ L y.Client=(y,true):=by
 have hh:fP iD L y.Client=true:=pH.2 ⟨y,hy,rfl⟩;obtain ⟨hk,he⟩:=(hs.has y.Client).1 hh;unfold fQ;rw [hh,if_pos rfl,sh hk];obtain ⟨j,hj,rfl⟩:=c9.1 hy;have ZN:j=nj iD L L[j].Client:=by
  have he:L[nj iD L L[j].Client].Client=L[j].Client:=he;rcases Nat.lt_trichotomy j (nj iD L L[j].Client) with dY|oM|dY
  ·have h5:L[j].Client<L[nj iD L L[j].Client].Client:=hs.lt hk dY;omega
  ·exact oM
  ·have h5:L[nj iD L L[j].Client].Client<L[j].Client:=hs.lt hj dY;omega
 congr 1;show L[nj iD L L[j].Client]=L[j];congr 1;exact ZN.symm
theorem abZ {L:List ai}{c:Int}(h: ∀y∈L,y.Client≠c):fQ L c=(noR,false):=by
 unfold fQ;cases hh:fP iD L c with
 |false=>rfl
 |true=>obtain ⟨y,hy,he⟩:=pH.1 hh;exact absurd he (h y hy)
theorem ab0 {L:List ai}{c:Int}(hs:rL iD L)(h:(fQ L c).2=true):(fQ L c).1∈L/\(fQ L c).1.Client=c:=by
 unfold fQ at h⊢;cases hh:fP iD L c with
 |false=>rw [hh] at h;cases h
 |true=>obtain ⟨hk,he⟩:=(hs.has c).1 hh;rw [if_pos rfl,sh hk];exact ⟨BY hk,he⟩
noncomputable def pM (st:ap×List ai×List bk)(o:ar):ap×List ai×List bk:=((dV st.1 o).1,st.2.1++[(dV st.1 o).2.1],st.2.2++(dV st.1 o).2.2)
noncomputable def cz (r:ap)(l:List ar):ap×List ai×List bk:=l.foldl pM (r,[],[])
theorem MQ (l:List ar): ∀{st:ap×List ai×List bk},e8 st.1->(l.foldl pM st).1=amH st.1 l/\e8 (l.foldl pM st).1/\(l.foldl pM st).2.1.length=st.2.1.length+l.length/\(l.foldl pM st).2.2.length<=st.2.2.length+200 *l.length:=by
 induction l with
 |nil=>intro st h;exact ⟨rfl,h,rfl,by simp⟩
 |cons o l ih=>
  intro st h;have GM:(dV st.1 o).2.2.length<=200:=by
   have:=(EJ h o).2.2;have:=h.table.len;rcases (EJ h o).2.2 with h|⟨h,_⟩
   ·omega
   ·rw [h];exact IS _
  obtain ⟨h1,h2,h3,h4⟩:=ih (st:=pM st o) (Kr h o);rw [List.foldl_cons];refine ⟨h1,h2,?_,?_⟩
  ·rw [h3];unfold pM;dsimp only;simp only [AT,AI,IN];omega
  ·refine Nat.le_trans h4 ?_;unfold pM;dsimp only;rw [AT,AI];omega
def ab1 (s:ap×List ai×List bk)(k:Int):(List ah)×Int×(List aE)×(List aq)×(List ai)×(List ai)×(List bk)×Int:=(s.1.Shelf.L,s.1.aL.cI,s.1.aL.L,s.1.aS.L,s.1.Seen,s.2.1,s.2.2,k)
theorem Ku {r:ap}(h:e8 r)(l:List ar)(hl:l.length<=1000):n5 r l=some (cz r l):=by
 unfold n5;have cw:Loop (pk l) (ab1 (r,[],[]) 0)=some ((cz r l).1.Shelf.L,(cz r l).1.aL.cI,(cz r l).1.aL.L,(cz r l).1.aS.L,(cz r l).1.Seen,(cz r l).2.1,(cz r l).2.2):=by
  refine aO.eq (aO.count (λk=>ab1 (cz r (l.take k)) (k:Int)) l.length (λ_=>True) rfl trivial (λk hk _=> ?_) (λ_=> ?_))
  ·have hs:cz r (l.take (k+1))=pM (cz r (l.take k)) l[k]:=qB hk;rw [hs];obtain ⟨h1,h2,h3,h4⟩:=MQ (l.take k) (st:=(r,[],[])) h;have h3:(cz r (l.take k)).2.1.length=0+(l.take k).length:=h3;have h4:(cz r (l.take k)).2.2.length<=0+200 *(l.take k).length:=h4;have h2:e8 (cz r (l.take k)).1:=h2;rw [List.length_take] at h3 h4;generalize cz r (l.take k)=s at h2 h3 h4;have ha:=FM h2 l[k];have GM:(dV s.1 l[k]).2.2.length<=200:=by
    have:=h2.table.len;rcases (EJ h2 l[k]).2.2 with h|⟨h,_⟩
    ·omega
    ·rw [h];exact IS _
   unfold pk ab1;dsimp only;rw [if_pos (by omega),ba hk];refine aO.of (a:=Sum.inl (ab1 (pM s l[k]) ((k+1:Nat):Int))) (aQ ha ?_) ?_;rotate_left
   ·exact ⟨rfl,trivial⟩
   rw [av,if_pos (by simp only [AI,IN];omega),if_pos (by omega),wrap64 (by omega) (by omega)];rfl
  ·unfold pk ab1;dsimp only;rw [if_neg (by omega),List.take_length];exact .mk rfl
 exact aQ cw rfl
end Dn.S
