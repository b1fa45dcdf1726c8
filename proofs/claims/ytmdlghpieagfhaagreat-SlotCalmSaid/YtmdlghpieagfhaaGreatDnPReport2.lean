import Derived.Test.YtmdlghpieagfhaaGreatDnPReport
import Derived.Test.YtmdlghpieagfhaaGreatDnD
/- Certificates: what binds a leader. Conditions: none. -/
set_option linter.unusedVariables false
set_option linter.unusedSimpArgs false
open List renaming map_cons→cV,mem_cons→sh,mem_map→AI,getElem?_cons_succ→AT,filter_append→IT,length_cons→No,nodup_cons→OF
open Prod.mk renaming injEq→BY
open Bool renaming and_assoc→aau
open Go Dn
namespace Dn.S
def nI (b:Int×List UInt8)(r:ab):Int×List UInt8:=if (mB r.Proof).2.2=true/\b.1<(mB r.Proof).1 then ((mB r.Proof).1,(mB r.Proof).2.1) else b
def pg (L:List ab):Int×List UInt8:=L.foldl nI (-1,[])
theorem acb {b:Int×List UInt8}{r:ab}(h: -1<=b.1): -1<=(nI b r).1:=by
 unfold nI;split
 ·rename_i h2;simp only;omega
 ·exact h
theorem ae5 (L:List ab): ∀b:Int×List UInt8,-1<=b.1-> -1<=(L.foldl nI b).1:=by
 induction L with
 |nil=>intro b h;exact h
 |cons r L ih=>intro b h;exact ih _ (acb h)
theorem ajf (L:List ab)(hl:L.length<2^32):Loop (mQ L) ((-1),([]:List UInt8),0)=some (pg L):=by
 refine aK.eq (aK.count (λk=>(((L.take k).foldl nI (-1,[])).1,((L.take k).foldl nI (-1,[])).2,(k:Int))) L.length (λ_=>True) (by simp) trivial (λk hk _=> ?_) (λ_=> ?_))
 ·unfold mQ;have Wy:=ae5 (L.take k) (-1,[]) (by simp);simp only [show ((k:Int)<(L.length:Int)) by omega,if_true,bB hk,BT,au];rw [wrap64 (by omega) (by omega),zm hk];generalize (L.take k).foldl nI (-1,[])=b at Wy;unfold nI;by_cases c:b.1<(mB L[k].Proof).1
  ·rw [if_pos c];have iY:0<L[k].Proof.length:=by refine Nat.pos_of_ne_zero λh0=> ?_;rw [List.eq_nil_of_length_eq_zero h0] at c;simp only [mB] at c;omega
   rw [yM iY];have h2:(mB L[k].Proof).2.2=true/\(mB L[k].Proof).2.1=L[k].Proof[0].Value:=by
    revert iY;cases L[k].Proof with
    |nil=>intro h;simp at h
    |cons x y=>intro h;exact ⟨rfl,rfl⟩
   rw [if_pos ⟨h2.1,c⟩];simp only [au,h2.2];exact .mk ⟨rfl,trivial⟩
  ·rw [if_neg c,if_neg (λh=>c h.2)];simp only [au];exact .mk ⟨rfl,trivial⟩
 ·unfold mQ;simp only [show¬((L.length:Int)<(L.length:Int)) by omega,if_false,List.take_length];exact .mk rfl
def A8 (c:Int)(x:List UInt8)(r:ab):Bool:=r.Has&&(decide (c<r.View)&&decide (r.Value=x))
def tz (c:Int)(L:List ab)(x:List UInt8):Nat:=(L.filter (A8 c x)).length
theorem RO {c:Int}{x y:List UInt8}(h:x≠y)(L:List ab):tz c L x+tz c L y<=L.length:=by
 unfold tz;induction L with
 |nil=>simp
 |cons r L ih=>
  simp only [List.filter_cons,No];have: ¬(A8 c x r=true/\A8 c y r=true):=by rintro ⟨h1,h2⟩;simp only [A8,Bool.and_eq_true,decide_eq_true_eq] at h1 h2;exact h (h1.2.2.symm.trans h2.2.2)
  cases h1:A8 c x r<;>cases h2:A8 c y r<;>simp [h1,h2] at this⊢ <;>omega
def lY (p:List UInt8×Int):MV:= .eu [.agg [.s p.1],.i .i64 p.2]
def YM:List (List UInt8×Int)->List UInt8->List (List UInt8×Int)
 |[],x=>[(x,1)]
 |p::r,x=>if p.1=x then (p.1,p.2+1)::r else p::YM r x
theorem ae6 (E:List (List UInt8×Int))(x:List UInt8)(h: ∀p∈E,0<=p.2/\p.2<2^40): ua (nL (E.map lY) [.s x] (.i .i64 0)) (cE (E.map lY) [.s x]) (.i .i64 (IntKind.wrap .i64 (nU (E.map lY) [.s x]+1)))=(YM E x).map lY:=by
 induction E with
 |nil=>simp only [List.map_nil,cE,nL,List.length_nil,eO,decide_true,cond_true,List.nil_append,nU,List.getElem?_nil,YM,cV,lY];rw [wrap64 (by omega) (by omega)];rfl
 |cons p E ih=>
  have ih:=ih λq hq=>h q (List.mem_cons_of_mem _ hq);have hk:kD (lY p)=[.s p.1]:=rfl;have he:eV (kD (lY p)) [.s x]=decide (p.1=x):=by rw [hk];simp [eV,E9]
  simp only [cV,YM];by_cases hx:p.1=x
  ·have hb:=h p (by simp);have hm:cE (lY p::E.map lY) [.s x]=0:=by simp only [cE,he,hx,decide_true,cond_true]
   have hn:nL (lY p::E.map lY) [.s x] (.i .i64 0)=lY p::E.map lY:=by unfold nL;rw [hm,eO];simp
   have hg:nU (lY p::E.map lY) [.s x]=p.2:=by unfold nU;rw [hm];rfl
   rw [hn,hm,hg,wrap64 (by omega) (by omega),if_pos hx];rfl
  ·have hm:cE (lY p::E.map lY) [.s x]=cE (E.map lY) [.s x]+1:=by simp only [cE,he,hx,decide_false,cond_false]
   have hn:nL (lY p::E.map lY) [.s x] (.i .i64 0)=lY p::nL (E.map lY) [.s x] (.i .i64 0):=by
    unfold nL;rw [hm,eO,eO,No];by_cases hq:cE (E.map lY) [.s x]=(E.map lY).length
    ·simp [hq]
    ·have hq': ¬(cE (E.map lY) [.s x]+1=(E.map lY).length+1):=by omega
     simp only [hq,hq',decide_false,cond_false]
   have hg:nU (lY p::E.map lY) [.s x]=nU (E.map lY) [.s x]:=by unfold nU;rw [hm,AT]
   rw [hn,hm,hg,if_neg hx,cV,<-ih];unfold ua;rw [AT];cases (nL (E.map lY) [.s x] (.i .i64 0))[cE (E.map lY) [.s x]]? <;>rfl
theorem acd {E:List (List UInt8×Int)}{x:List UInt8}:(YM E x).map (·.1)=if x∈E.map (·.1) then E.map (·.1) else E.map (·.1)++[x]:=by
 induction E with
 |nil=>simp [YM]
 |cons p E ih=>
  simp only [YM];by_cases hx:p.1=x
  ·rw [if_pos hx];simp [hx]
  ·rw [if_neg hx,cV,ih];have: ¬(x=p.1):=λh=>hx h.symm;by_cases hm:x∈E.map (·.1)
   ·rw [if_pos hm,if_pos (by simp only [cV,sh];exact .inr hm),cV]
   ·rw [if_neg hm,if_neg (by simp only [cV,sh];rintro (h|h);exact this h;exact hm h)];rfl
theorem XW {E:List (List UInt8×Int)}{x:List UInt8}(h:(E.map (·.1)).Nodup):((YM E x).map (·.1)).Nodup:=by
 rw [acd];split
 ·exact h
 ·rename_i hm;rw [List.nodup_append];refine ⟨h,by simp,λa ha b hb hab=> ?_⟩;simp only [List.mem_singleton] at hb;subst hb;subst hab;exact hm ha
theorem ae7 {E:List (List UInt8×Int)}{x y:List UInt8}{n:Int}(h:(E.map (·.1)).Nodup):(y,n)∈YM E x↔(y≠x/\(y,n)∈E)\/(y=x/\((x,n-1)∈E\/(n=1/\x∉E.map (·.1)))):=by
 induction E with
 |nil=>simp [YM]
 |cons p E ih=>
  obtain ⟨h1,h2⟩:=OF.1 h;have ih:=ih h2;obtain ⟨k,m⟩:=p;simp only [YM];simp only at h1;by_cases hx:k=x
  ·subst hx;rw [if_pos rfl];by_cases hy:y=k
   ·subst hy;have di: ∀n,(y,n)∉E:=λn hm=>h1 (AI.2 ⟨_,hm,rfl⟩);simp only [sh,BY,true_and,di,or_false,ne_eq,not_true_eq_false,false_and,false_or,cV,true_or,not_true_eq_false,and_false];omega
   ·simp [hy]
  ·rw [if_neg hx];simp only [sh,ih,BY,cV];by_cases hy:y=x
   ·subst hy;simp [Ne.symm hx,λh:y=k=>hx h.symm]
   ·simp only [hy,false_and,or_false,ne_eq,not_false_eq_true,true_and]
structure L1 (c:Int) (L:List ab) (E:List (List UInt8×Int)):Prop where
 nodup:(E.map (·.1)).Nodup
 mem: ∀x n,(x,n)∈E↔0<tz c L x/\n=(tz c L x:Int)
theorem L1.nil (c:Int):L1 c [] []:=⟨by simp,by simp [tz]⟩
theorem L1.skip {c:Int}{L:List ab}{E:List (List UInt8×Int)}{r:ab}(h:L1 c L E)(hr:(r.Has&&decide (c<r.View))=false):L1 c (L++[r]) E:=by
 refine ⟨h.nodup,λx n=> ?_⟩;have:tz c (L++[r]) x=tz c L x:=by
  unfold tz;rw [IT];have:A8 c x r=false:=by unfold A8;rw [<-aau,hr];rfl
  simp [this]
 rw [this];exact h.mem x n
theorem L1.add {c:Int}{L:List ab}{E:List (List UInt8×Int)}{r:ab}(h:L1 c L E)(hr:(r.Has&&decide (c<r.View))=true):L1 c (L++[r]) (YM E r.Value):=by
 refine ⟨XW h.nodup,λx n=> ?_⟩;rw [ae7 h.nodup];have hc:tz c (L++[r]) x=tz c L x+if r.Value=x then 1 else 0:=by
  unfold tz;rw [IT];have:A8 c x r=decide (r.Value=x):=by unfold A8;rw [<-aau,hr];rfl
  by_cases hx:r.Value=x<;>simp [this,hx]
 rw [hc];by_cases hx:x=r.Value
 ·subst hx;simp only [if_true,ne_eq,not_true_eq_false,false_and,false_or,true_and,h.mem];have hk:r.Value∉E.map (·.1)↔tz c L r.Value=0:=by
   constructor
   ·intro hm;refine Nat.eq_zero_of_not_pos λhp=>hm ?_;exact AI.2 ⟨_,(h.mem _ _).2 ⟨hp,rfl⟩,rfl⟩
   ·intro h0 hm;obtain ⟨p,hp,he⟩:=AI.1 hm;have:=((h.mem p.1 p.2).1 hp).1;rw [he] at this;omega
  rw [hk];constructor
  ·rintro (⟨h1,h2⟩|⟨h1,h2⟩)
   ·exact ⟨by omega,by omega⟩
   ·exact ⟨by omega,by omega⟩
  ·rintro ⟨_,h2⟩;by_cases h0:tz c L r.Value=0
   ·exact .inr ⟨by omega,h0⟩
   ·exact .inl ⟨by omega,by omega⟩
 ·simp only [hx,ne_eq,not_false_eq_true,true_and,false_and,or_false,if_neg (Ne.symm hx),Nat.add_zero];exact h.mem x n
theorem CO (L:List ab)(w:Int×List UInt8)(hl:L.length<2^32):aK (Loop (pK L w) (([]:List MV),0)) λes=> ∃E,es=E.map lY/\L1 w.1 L E:=by
 refine aK.loop (λst=> ∃(k:Nat) (E:List (List UInt8×Int)),k<=L.length/\st=(E.map lY,(k:Int))/\L1 w.1 (L.take k) E) (λst=>((L.length:Int)-st.2).toNat) ⟨0,[],Nat.zero_le _,rfl,.nil _⟩ ?_;rintro st ⟨k,E,hk,rfl,hE⟩;unfold pK;by_cases cJ:k<L.length
 ·simp only [show ((k:Int)<(L.length:Int)) by omega,if_true,bB cJ];rw [wrap64 (x:=(k:Int)+1) (by omega) (by omega)];have HM:L.take (k+1)=L.take k++[L[k]]:=by rw [List.take_add_one,List.getElem?_eq_getElem cJ];rfl
  have U6:(if L[k].Has then some (decide (w.1<L[k].View)) else some false:Option Bool)=some (L[k].Has&&decide (w.1<L[k].View)):=by cases L[k].Has<;>rfl
  rw [U6];simp only [au];cases hh:L[k].Has&&decide (w.1<L[k].View) with
  |true=>
   rw [ae6 E L[k].Value]
   ·simp only [if_true,au];refine .mk ⟨⟨k+1,_,by omega,rfl,?_⟩,by simp only;omega⟩;rw [HM];exact hE.add hh
   ·intro p hp;obtain ⟨h1,h2⟩:=(hE.mem p.1 p.2).1 hp;have:tz w.1 (L.take k) p.1<=L.length:=by unfold tz;exact uM
    omega
  |false=>simp only [Bool.false_eq_true,if_false,au];refine .mk ⟨⟨k+1,E,by omega,rfl,?_⟩,by simp only;omega⟩;rw [HM];exact hE.skip hh
 ·simp only [show¬((k:Int)<(L.length:Int)) by omega,if_false];refine .mk ⟨E,rfl,?_⟩;rw [List.take_of_length_le (by omega)] at hE;exact hE
def F5 (V:Int)(L:List ab)(res:List UInt8×Bool):Prop:=(∃x,V<=(tz (pg L).1 L x:Int)/\res=(x,true))\/((∀x,(tz (pg L).1 L x:Int)<V)/\res=((pg L).2,decide (0<=(pg L).1)))
theorem anL {V:Int}{f:MV->Option (Sum Unit (Unit⊕(List UInt8×Bool)))}{d:Option (Unit⊕(List UInt8×Bool))}(hd:d=some (.inl ()))(hf: ∀p,f (lY p)=if V<=p.2 then some (.inr (.inr (p.1,true))) else some (.inl ())): ∀(E:List (List UInt8×Int)),(E.map (·.1)).Nodup->(∀p∈E,∀q∈E,V<=p.2->V<=q.2->p.1=q.1)->aK (um f d (E.map lY)) λr=>(∃p∈E,V<=p.2/\r= .inr (p.1,true))\/((∀p∈E,p.2<V)/\r= .inl ()):=by
 intro E;induction E with
 |nil=>intro _ _;rw [hd];exact .mk (.inr ⟨by simp,rfl⟩)
 |cons p E ih=>
  intro hn hu;obtain ⟨h1,h2⟩:=OF.1 hn;simp only [cV,um,hf];by_cases hp:V<=p.2
  ·rw [if_pos hp];have ku:(E.map lY).all (λy=>yj (f y))=true:=by
    rw [List.all_eq_true];intro m hm;obtain ⟨q,hq,rfl⟩:=AI.1 hm;rw [hf];by_cases hV:V<=q.2
    ·have:=hu p (by simp) q (by simp [hq]) hp hV;exact absurd (AI.2 ⟨q,hq,this.symm⟩) h1
    ·rw [if_neg hV];rfl
   simp only [ku,cond_true];exact .mk (.inl ⟨p,by simp,hp,rfl⟩)
  ·rw [if_neg hp];refine (ih h2 λa ha b hb=>hu a (by simp [ha]) b (by simp [hb])).imp ?_;rintro r (⟨q,hq,h3,h4⟩|⟨h3,h4⟩)
   ·exact .inl ⟨q,by simp [hq],h3,h4⟩
   ·refine .inr ⟨λq hq=> ?_,h4⟩;rcases sh.1 hq with rfl|hq
    ·omega
    ·exact h3 q hq
theorem A9 {s:ae}(hs:cC s)(L:List ab)(hn:(L.length:Int)=2 *s.F+2 *s.T+1):aK (li s L) (F5 (s.F+s.T+1) L):=by
 have Nj:=(b7 s).1 hs;have hl:L.length<2^32:=by omega
 unfold li;rw [ajf L hl];simp only [au];refine aK.bd (CO L (pg L) hl) ?_;rintro es ⟨E,rfl,hE⟩;have hu: ∀p∈E,∀q∈E,s.F+s.T+1<=p.2->s.F+s.T+1<=q.2->p.1=q.1:=by
  intro p hp q hq h1 h2;have e1:=((hE.mem p.1 p.2).1 hp).2;have e2:=((hE.mem q.1 q.2).1 hq).2;by_cases di:p.1=q.1
  ·exact di
  ·have:=RO (c:=(pg L).1) di L;omega
 refine aK.bd (anL (V:=s.F+s.T+1) (f:=pL s) rfl (λp=> ?_) E hE.nodup hu) ?_
 ·unfold pL;rw [Pe hs];simp only [lY,QW,gT,gC,gA,gN,gS,gI,decide_true,cond_true,au]
 ·rintro r (⟨p,hp,h1,rfl⟩|⟨h1,rfl⟩)
  ·refine .mk (.inl ⟨p.1,?_,rfl⟩);have:=((hE.mem p.1 p.2).1 hp).2;omega
  ·refine .mk (.inr ⟨λx=> ?_,?_⟩)
   ·by_cases h0:0<tz (pg L).1 L x
    ·exact h1 (x,_) ((hE.mem x _).2 ⟨h0,rfl⟩)
    ·omega
   ·simp only [BY,true_and,decide_eq_decide];omega
theorem Pf (s:ae)(view:Int)(L:List ab)(x:List UInt8)(hp: ∀r∈L,r.Proof.length<2^32)(hl:L.length<2^32):aK (cW s view L x) λ_=>True:=by
 unfold cW;obtain ⟨b1,e1,h1⟩:=A7 s view L hp hl;rw [e1,au];cases b1 with
 |false=>exact .mk trivial
 |true=>have hr:=h1.1 rfl;obtain ⟨r,e3,h3⟩:=A9 hr.1 L hr.2.1;rw [if_neg (by simp),e3,au];cases r.2<;>exact .mk trivial
end Dn.S
