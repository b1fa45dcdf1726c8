import Derived.Test.YtbkodohojpchjaaGreatDoorDnPRealm6
/-
  Realms: an order that was answered is answered alike. Conditions: none.
-/
open Go Dn
set_option linter.unusedVariables false
set_option linter.unusedSimpArgs false
namespace Dn.S
theorem WC (r:ak):bq (AN r) fun b=>b=true→Small r∧(r.Shelf.L.length≤40∧r.bh.L.length≤40∧r.Seen.length≤60)∧acJ r:=by
 unfold AN
 by_cases h1:(40:Int)<(r.Shelf.L.length:Int)
 ·rw [if_pos h1,aC,if_pos rfl];exact .mk (fun h=>by cases h)
 rw [if_neg h1]
 by_cases h2:(40:Int)<(r.bh.L.length:Int)
 ·rw [if_pos h2,aC,if_pos rfl];exact .mk (fun h=>by cases h)
 rw [if_neg h2]
 by_cases h3:(60:Int)<(r.bt.L.length:Int)
 ·rw [if_pos h3,aC,if_pos rfl];exact .mk (fun h=>by cases h)
 rw [if_neg h3]
 by_cases h4:(60:Int)<(r.Seen.length:Int)
 ·rw [if_pos h4,aC,if_pos rfl];exact .mk (fun h=>by cases h)
 rw [if_neg h4,aC]
 by_cases h5:(10000000000:Int)<r.bt.dE
 ·rw [decide_eq_true h5,if_pos rfl];exact .mk (fun h=>by cases h)
 rw [decide_eq_false h5,if_neg (by decide)]
 have hS:Small r:=⟨by omega,by omega,by omega,by omega,fun _=>by omega⟩
 refine bq.bd (P:=fun x=>x= .inl ()∨x= .inr false) ?_ ?_
 ·refine bq.count (fun k=>(k:Int)) r.Shelf.L.length (fun _=>True) rfl trivial (fun k hk _=> ?_) (fun _=> ?_)
  ·unfold yd
   rw [if_pos (by omega),bx hk,bx hk]
   by_cases g1:(200:Int)<(r.Shelf.L[k].Path.length:Int)
   ·rw [if_pos g1,aC,if_pos rfl];exact .mk (.inr rfl)
   rw [if_neg g1,aC]
   by_cases g2:(1100:Int)<(r.Shelf.L[k].Value.length:Int)
   ·rw [decide_eq_true g2,if_pos rfl];exact .mk (.inr rfl)
   rw [decide_eq_false g2,if_neg (by decide),wrap64 (by omega) (by omega)]
   exact .mk ⟨by omega,trivial⟩
  ·unfold yd
   rw [if_neg (by omega)]
   exact .mk (.inl rfl)
 rintro x (rfl|rfl)
 rotate_left
 ·exact .mk (fun h=>by cases h)
 dsimp only
 refine bq.bd (P:=fun x=>x= .inl ()∨x= .inr false) ?_ ?_
 ·refine bq.count (fun k=>(k:Int)) r.bh.L.length (fun _=>True) rfl trivial (fun k hk _=> ?_) (fun _=> ?_)
  ·unfold ye
   rw [if_pos (by omega),bx hk]
   by_cases g1:(200:Int)<(r.bh.L[k].Path.length:Int)
   ·rw [if_pos g1];exact .mk (.inr rfl)
   rw [if_neg g1,wrap64 (by omega) (by omega)]
   exact .mk ⟨by omega,trivial⟩
  ·unfold ye
   rw [if_neg (by omega)]
   exact .mk (.inl rfl)
 rintro x (rfl|rfl)
 rotate_left
 ·exact .mk (fun h=>by cases h)
 dsimp only
 refine bq.bd (P:=fun x=>(x= .inl ()∧acJ r)∨x= .inr false) ?_ ?_
 ·refine bq.count (fun k=>(k:Int)) r.Seen.length (fun k=> ∀j (hj:j<r.Seen.length),j<k→r.Seen[j].Names.length≤1000) rfl (fun j hj h=>by omega) (fun k hk hp=> ?_) (fun hp=> ?_)
  ·unfold yg
   rw [if_pos (by omega),bx hk,bx hk]
   by_cases g1:(1100:Int)<(r.Seen[k].Value.length:Int)
   ·rw [if_pos g1,aC,if_pos rfl];exact .mk (.inr rfl)
   rw [if_neg g1,aC]
   by_cases g2:(40:Int)<(r.Seen[k].Names.length:Int)
   ·rw [decide_eq_true g2,if_pos rfl];exact .mk (.inr rfl)
   rw [decide_eq_false g2,if_neg (by decide)]
   refine bq.bd (P:=fun x=>x= .inl ()∨x= .inr false) ?_ ?_
   ·refine bq.count (fun i=>(i:Int)) r.Seen[k].Names.length (fun _=>True) rfl trivial (fun i hi _=> ?_) (fun _=> ?_)
    ·unfold yf
     rw [bx hk,if_pos (by omega),bx hk,bx hi]
     by_cases g3:(200:Int)<(r.Seen[k].Names[i].length:Int)
     ·rw [if_pos g3];exact .mk (.inr rfl)
     rw [if_neg g3,wrap64 (by omega) (by omega)]
     exact .mk ⟨by omega,trivial⟩
    ·unfold yf
     rw [bx hk,if_neg (by omega)]
     exact .mk (.inl rfl)
   rintro x (rfl|rfl)
   ·dsimp only
    rw [wrap64 (by omega) (by omega)]
    refine .mk ⟨by omega,fun j hj Rk=> ?_⟩
    by_cases hjj:j=k
    ·subst hjj;omega
    ·exact hp j hj (by omega)
   ·exact .mk (.inr rfl)
  ·unfold yg
   rw [if_neg (by omega)]
   refine .mk (.inl ⟨rfl,fun x hx=> ?_⟩)
   obtain ⟨j,hj,rfl⟩:=List.mem_iff_getElem.1 hx
   exact hp j hj hj
 rintro x (⟨rfl,hN⟩|rfl)
 ·exact .mk (fun _=>⟨hS,⟨by omega,by omega,by omega⟩,hN⟩)
 ·exact .mk (fun h=>by cases h)
theorem aaC (w:ai) (k:Int):(qa k w).x=w.x:=by unfold qa;split<;>rfl
theorem WD {L:List af} (hs:qC kG L) {c:Int} {x:af} (hx:x.Client=c) (y:af):y∈Bx L c x↔y=x∨(y∈L∧y.Client≠c):=by
 unfold Bx
 subst hx
 cases hh:ki kG L x.Client with
 |false=>
  rw [if_neg (by decide),KF]
  constructor
  ·rintro (h|h)
   ·refine .inr ⟨h,fun he=> ?_⟩
    have:ki kG L x.Client=true:=Bn.2 ⟨y,h,he⟩
    rw [hh] at this;cases this
   ·exact .inl h
  ·rintro (h|⟨h,_⟩)
   ·exact .inr h
   ·exact .inl h
 |true=>
  obtain ⟨hk,he⟩:=(hs.has x.Client).1 hh
  rw [if_pos rfl]
  have cT: ∀j (hj:j<L.length),j≠oZ kG L x.Client→L[j].Client≠x.Client:=by
   intro j hj hjn hjc
   have he:L[oZ kG L x.Client].Client=x.Client:=he
   rcases Nat.lt_or_gt_of_ne hjn with da|da
   ·have h5:L[j].Client<L[oZ kG L x.Client].Client:=hs.lt hk da
    omega
   ·have h5:L[oZ kG L x.Client].Client<L[j].Client:=hs.lt hj da
    omega
  rw [List.mem_iff_getElem]
  constructor
  ·rintro ⟨j,hj,rfl⟩
   rw [List.length_set] at hj
   rw [List.getElem_set]
   split
   ·exact .inl rfl
   ·rename_i hjn
    exact .inr ⟨List.getElem_mem hj,cT j hj (fun h=>hjn h.symm)⟩
  ·rintro (rfl|⟨hy,hyc⟩)
   ·exact ⟨oZ kG L y.Client,by rw [List.length_set];exact hk,by rw [List.getElem_set_self]⟩
   ·obtain ⟨j,hj,rfl⟩:=List.mem_iff_getElem.1 hy
    refine ⟨j,by rw [List.length_set];exact hj,?_⟩
    rw [List.getElem_set,if_neg]
    intro hjn
    subst hjn
    exact hyc he
theorem Zs {L:List af} (hs:qC kG L) {y:af} (hy:y∈L):j7 L y.Client=(y,true):=by
 have hh:ki kG L y.Client=true:=Bn.2 ⟨y,hy,rfl⟩
 obtain ⟨hk,he⟩:=(hs.has y.Client).1 hh
 unfold j7
 rw [hh,if_pos rfl,List.getElem?_eq_getElem hk]
 obtain ⟨j,hj,rfl⟩:=List.mem_iff_getElem.1 hy
 have Rk:j=oZ kG L L[j].Client:=by
  have he:L[oZ kG L L[j].Client].Client=L[j].Client:=he
  rcases Nat.lt_trichotomy j (oZ kG L L[j].Client) with da|iV|da
  ·have h5:L[j].Client<L[oZ kG L L[j].Client].Client:=hs.lt hk da
   omega
  ·exact iV
  ·have h5:L[oZ kG L L[j].Client].Client<L[j].Client:=hs.lt hj da
   omega
 congr 1
 show L[oZ kG L L[j].Client]=L[j]
 congr 1
 exact Rk.symm
theorem WE {L:List af} {c:Int} (h: ∀y∈L,y.Client≠c):j7 L c=(noR,false):=by
 unfold j7
 cases hh:ki kG L c with
 |false=>rfl
 |true=>
  obtain ⟨y,hy,he⟩:=Bn.1 hh
  exact absurd he (h y hy)
noncomputable def xL (st:ak×List af×List bc) (o:av):ak×List af×List bc:=((cm st.1 o).1,st.2.1++[(cm st.1 o).2.1],st.2.2++(cm st.1 o).2.2)
noncomputable def n3 (r:ak) (l:List av):ak×List af×List bc:=l.foldl xL (r,[],[])
theorem SD (l:List av): ∀{st:ak×List af×List bc},fM st.1→(l.foldl xL st).1=ag6 st.1 l∧fM (l.foldl xL st).1∧(l.foldl xL st).2.1.length=st.2.1.length+l.length∧(l.foldl xL st).2.2.length≤st.2.2.length+200 *l.length:=by
 induction l with
 |nil=>intro st h;exact ⟨rfl,h,rfl,by simp⟩
 |cons o l ih=>
  intro st h
  have DP:(cm st.1 o).2.2.length≤200:=by
   have:=(GR h o).2.2
   have:=h.table.len
   rcases (GR h o).2.2 with h|⟨h,_⟩
   ·omega
   ·rw [h];exact Nat.zero_le _
  obtain ⟨h1,h2,h3,h4⟩:=ih (st:=xL st o) (uF h o)
  rw [List.foldl_cons]
  refine ⟨h1,h2,?_,?_⟩
  ·rw [h3];unfold xL;dsimp only;simp only [List.length_append,List.length_cons,List.length_nil];omega
  ·refine Nat.le_trans h4 ?_
   unfold xL
   dsimp only
   rw [List.length_append,List.length_cons]
   omega
def WG (s:ak×List af×List bc) (k:Int):(List ae)×Int×(List aw)×(List al)×(List af)×(List af)×(List bc)×Int:=(s.1.Shelf.L,s.1.bt.dE,s.1.bt.L,s.1.bh.L,s.1.Seen,s.2.1,s.2.2,k)
theorem WH {r:ak} (h:fM r) (l:List av) (hl:l.length≤1000):rq r l=some (n3 r l):=by
 unfold rq
 have fT:Loop (nD l) (WG (r,[],[]) 0)=some ((n3 r l).1.Shelf.L,(n3 r l).1.bt.dE,(n3 r l).1.bt.L,(n3 r l).1.bh.L,(n3 r l).1.Seen,(n3 r l).2.1,(n3 r l).2.2):=by
  refine bq.eq (bq.count (fun k=>WG (n3 r (l.take k)) (k:Int)) l.length (fun _=>True) rfl trivial (fun k hk _=> ?_) (fun _=> ?_))
  ·have hs:n3 r (l.take (k+1))=xL (n3 r (l.take k)) l[k]:=z8 hk
   rw [hs]
   obtain ⟨h1,h2,h3,h4⟩:=SD (l.take k) (st:=(r,[],[])) h
   have h3:(n3 r (l.take k)).2.1.length=0+(l.take k).length:=h3
   have h4:(n3 r (l.take k)).2.2.length≤0+200 *(l.take k).length:=h4
   have h2:fM (n3 r (l.take k)).1:=h2
   rw [List.length_take] at h3 h4
   generalize n3 r (l.take k)=s at h2 h3 h4
   have ha:=Cx h2 l[k]
   have DP:(cm s.1 l[k]).2.2.length≤200:=by
    have:=h2.table.len
    rcases (GR h2 l[k]).2.2 with h|⟨h,_⟩
    ·omega
    ·rw [h];exact Nat.zero_le _
   unfold nD WG
   dsimp only
   rw [if_pos (by omega),bx hk]
   refine bq.of (a:=Sum.inl (WG (xL s l[k]) ((k+1:Nat):Int))) (dt ha ?_) ?_
   rotate_left
   ·exact ⟨rfl,trivial⟩
   rw [aC,if_pos (by simp only [List.length_cons,List.length_nil];omega),if_pos (by omega),wrap64 (by omega) (by omega)]
   rfl
  ·unfold nD WG
   dsimp only
   rw [if_neg (by omega),List.take_length]
   exact .mk rfl
 exact dt fT rfl
end Dn.S
