import Derived.Test.YtbkodohojpchjaaGreatDoorDnPRealm12
/-
  Realms: folds of orders, in one piece and in two. Conditions: none.
-/
set_option linter.unusedVariables false
set_option linter.unusedSimpArgs false
open List renaming length_map→c9,length_cons→AI,length_take→AS,take_length→AT,length_nil→BY,getElem_map→IN,length_drop→IS,drop→IT,take→No
open Int renaming toNat_natCast→sh,toNat→By
open Go Dn
namespace Dn.S
theorem MW (l:List ar): ∀(r:ap)(a:List ai)(b:List bk),l.foldl pM (r,a,b)=((cz r l).1,a++(cz r l).2.1,b++(cz r l).2.2):=by
 unfold cz;induction l with
 |nil=>intro r a b;simp
 |cons o l ih=>intro r a b;simp only [List.foldl_cons,pM,List.nil_append];rw [ih _ (a++_) (b++_),ih _ [_] _];simp [List.append_assoc]
theorem OX (r:ap)(l m:List ar):cz r (l++m)=((cz (cz r l).1 m).1,(cz r l).2.1++(cz (cz r l).1 m).2.1,(cz r l).2.2++(cz (cz r l).1 m).2.2):=by
 have h:cz r (l++m)=m.foldl pM (cz r l):=by unfold cz;rw [List.foldl_append]
 rw [h,<-MW]
theorem EL {r:ap}(h:e8 r)(l:List ar):e8 (cz r l).1/\(cz r l).2.1.length=l.length/\(cz r l).2.2.length<=200 *l.length:=by obtain ⟨h1,h2,h3,h4⟩:=MQ l (st:=(r,[],[])) h;have h3:(cz r l).2.1.length=0+l.length:=h3;have h4:(cz r l).2.2.length<=0+200 *l.length:=h4;exact ⟨h2,by omega,by omega⟩
theorem Ub (l:List ar): ∀{r:ap},e8 r->FN r->FN (cz r l).1/\ ∀y∈(cz r l).2.1,ux y:=by
 induction l with
 |nil=>intro r h hs;exact ⟨hs,λy hy=>by cases hy⟩
 |cons o l ih=>
  intro r h hs;obtain ⟨t1,t2⟩:=RN h hs o;obtain ⟨i1,i2⟩:=ih (Kr h o) t1;have hf:cz r (o::l)=((cz (dV r o).1 l).1,[(dV r o).2.1]++(cz (dV r o).1 l).2.1,(dV r o).2.2++(cz (dV r o).1 l).2.2):=by have h1:pM (r,[],[]) o=((dV r o).1,[(dV r o).2.1],(dV r o).2.2):=rfl;show l.foldl pM (pM (r,[],[]) o)=_;rw [h1,MW]
  rw [hf];refine ⟨i1,λy hy=> ?_⟩;rcases List.mem_append.1 hy with hy|hy
  ·rw [List.mem_singleton.1 hy];exact t2
  ·exact i2 y hy
theorem ab6 (l:List ar)(hl:l.length<=1000):DD l=some (l.map qD):=by
 unfold DD;have cw:Loop (wS l) (([]:List dJ),0)=some (l.map qD):=by
  refine EH l qD (λk hk=> ?_) ?_
  ·unfold wS;dsimp only;have:= @uu _ _ qD l k;rw [if_pos (by omega),ba hk,show Hr l[k]=some (qD l[k]) from rfl,av,if_pos (by simp only [AI,BY];omega),wrap64 (by omega) (by omega)];rfl
  ·unfold wS;dsimp only;rw [if_neg (by omega)]
 rw [cw,av]
def XP (s:ap×List ai×List bk)(k:Int):(List aP)×Int×(List al)×(List aF)×(List aw)×(List aw)×(List bH)×Int:=(s.1.Shelf.L.map toR,s.1.aL.cI,s.1.aL.L.map oK,s.1.aS.L.map sb,s.1.Seen.map kh,s.2.1.map kh,s.2.2.map Pa,k)
theorem Uc {r:ap}(h:e8 r)(l:List ar)(hl:l.length<=1000):Ah (gK r) (l.map qD)=some (gK (cz r l).1,(cz r l).2.1.map kh,(cz r l).2.2.map Pa):=by
 unfold Ah;have hll:(l.map qD).length=l.length:=c9 ..;have cw:Loop (tS (l.map qD)) (XP (r,[],[]) 0)=some ((cz r l).1.Shelf.L.map toR,(cz r l).1.aL.cI,(cz r l).1.aL.L.map oK,(cz r l).1.aS.L.map sb,(cz r l).1.Seen.map kh,(cz r l).2.1.map kh,(cz r l).2.2.map Pa):=by
  refine aO.eq (aO.count (λk=>XP (cz r (l.take k)) (k:Int)) l.length (λ_=>True) rfl trivial (λk hk _=> ?_) (λ_=> ?_))
  ·have hs:cz r (l.take (k+1))=pM (cz r (l.take k)) l[k]:=qB hk;rw [hs];obtain ⟨h2,h3,h4⟩:=EL h (l.take k);rw [AS] at h3 h4;generalize cz r (l.take k)=s at h2 h3 h4;have ha:=RJ h2 l[k];have GM:=XO h2 l[k];unfold tS XP;dsimp only;rw [if_pos (by omega),ba (by omega),IN];refine aO.of (a:=Sum.inl (XP (pM s l[k]) ((k+1:Nat):Int))) (aQ ha ?_) ?_;rotate_left
   ·exact ⟨rfl,trivial⟩
   rw [av,if_pos (by simp only [AI,BY,c9];omega),if_pos (by simp only [c9];omega),wrap64 (by omega) (by omega)];unfold XP pM;simp only [List.map_append,List.map_cons,List.map_nil];rfl
  ·unfold tS XP;dsimp only;rw [if_neg (by omega),AT];exact .mk rfl
 exact aQ cw rfl
theorem ze {L:List ai}(hl:L.length<=1000)(hn: ∀y∈L,y.Names.length<=1000):ox (L.map kh) (L.map kh)=some true:=by
 have hll:(L.map kh).length=L.length:=c9 ..;unfold ox;rw [decide_eq_true rfl,if_neg (by decide)];have cw:Loop (nu (L.map kh) (L.map kh)) 0=some (.inl ()):=by
  refine aO.eq (aO.count (λk=>(k:Int)) L.length (λ_=>True) rfl trivial (λk hk _=> ?_) (λ_=> ?_))
  ·unfold nu;have:=hn _ (List.getElem_mem hk);rw [if_pos (by omega),ba (by omega),ba (by omega),IN,OU _ (by omega),av,if_neg (by decide),wrap64 (by omega) (by omega)];exact .mk ⟨by omega,trivial⟩
  ·unfold nu;rw [if_neg (by omega)];exact .mk rfl
 rw [cw,av]
theorem aiY (l:List bk)(hl:l.length<=10000):qp l=some (l.map Pa):=by
 unfold qp;have cw:Loop (pj l) (([]:List bH),0)=some (l.map Pa):=by
  refine EH l Pa (λk hk=> ?_) ?_
  ·unfold pj;dsimp only;have:= @uu _ _ Pa l k;rw [if_pos (by omega),ba hk,ba hk,if_pos (by simp only [AI,BY];omega),wrap64 (by omega) (by omega)];rfl
  ·unfold pj;dsimp only;rw [if_neg (by omega)]
 rw [cw,av]
theorem XQ:FN BW:=λy hy=>by cases hy
theorem Ky (l:List ar)(at_:Int):pn l at_=some true:=by
 unfold pn;obtain ⟨b,hb,hs⟩:=TZ l;rw [hb,av,TY];cases b with
 |false=>rfl
 |true=>
 have hl:=hs rfl;rw [if_neg (by decide),Ry,av,Ku AQ l (by omega),av,show Hs=some (gK BW) from rfl,av,ab6 l (by omega),av,Uc AQ l (by omega),av];obtain ⟨g1,g2,g3⟩:=EL AQ l;obtain ⟨s1,s2⟩:=Ub l AQ XQ;have hSm:=Rz g1;have hNm:amG (cz BW l).1:=λy hy=>(s1 y hy).2.1;rw [T2 hSm,av];dsimp only;have aql: ∀L:List bk,L.length<=10000->qp L=some (L.map Pa):=λL hL=>aiY L hL;rw [OW (amM g1 s1),av,if_neg (show¬(!true)=true by decide),CV _ (by omega),av,ze (by omega) (λy hy=>(s2 y hy).2.1),av,if_neg (show¬(!true)=true by decide),aql _ (by omega),av,OP _ _ (by rw [c9];omega),decide_eq_true rfl,av,av,if_neg (show¬(!true)=true by decide)];obtain ⟨k,hk,hkl⟩: ∃k:Nat,nT (imax at_ 0) (l.length:Int)=(k:Int)/\k<=l.length:=by
  refine ⟨(nT (imax at_ 0) (l.length:Int)).toNat,?_,?_⟩
  ·have:0<=nT (imax at_ 0) (l.length:Int):=by unfold nT imax;split<;>split<;>omega
   omega
  ·have:nT (imax at_ 0) (l.length:Int)<=(l.length:Int):=by unfold nT imax;split<;>split<;>omega
   omega
 rw [hk];have e1:IT (By 0) (No (By (k:Int)) l)=l.take k:=by simp
 have e2:IT (By (k:Int)) (No (By (l.length:Int)) l)=l.drop k:=by rw [sh,sh,AT]
 rw [if_pos (by omega),av,e1,e2];obtain ⟨p1,p2,p3⟩:=EL AQ (l.take k);obtain ⟨q1,q2,q3⟩:=EL p1 (l.drop k);have Si:=OX BW (l.take k) (l.drop k);rw [List.take_append_drop] at Si;rw [AS] at p2;rw [IS] at q2;have hA:(cz (cz BW (l.take k)).1 (l.drop k)).1=(cz BW l).1:=by rw [Si]
 have hB:(cz BW l).2.1.drop k=(cz (cz BW (l.take k)).1 (l.drop k)).2.1:=by rw [Si];dsimp only;rw [List.drop_append_of_le_length (by omega),List.drop_of_length_le (by omega)];rfl
 have e3:IT (By (k:Int)) (No (By ((cz BW l).2.1.length:Int)) (cz BW l).2.1)=(cz (cz BW (l.take k)).1 (l.drop k)).2.1:=by rw [sh,sh,AT,hB]
 have s3: ∀y∈(cz (cz BW (l.take k)).1 (l.drop k)).2.1,ux y:=λy hy=>s2 y (by rw [<-hB] at hy;exact List.mem_of_mem_drop hy);rw [Ku AQ _ (by rw [AS];omega),av,if_pos (by omega),Ku p1 _ (by rw [IS];omega),av,av,if_pos rfl,hA,AR hSm hNm,av,if_pos rfl,wrap64 (by omega) (by omega),if_pos (by omega),if_pos (by omega),e3,CV _ (by omega),av,av,ze (by omega) (λy hy=>(s3 y hy).2.1),av,av]
end Dn.S
