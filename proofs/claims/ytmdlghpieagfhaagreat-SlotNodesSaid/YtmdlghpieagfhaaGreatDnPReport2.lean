import Derived.Test.YtmdlghpieagfhaaGreatDnPReport
import Derived.Test.YtmdlghpieagfhaaGreatDnC
/-
  Certificates: what binds a leader. Conditions: none.
-/
set_option linter.unusedVariables false
set_option linter.unusedSimpArgs false
open Bool renaming false_eq_true→fj,and_eq_true→IN,and_assoc→aaH,false_and→aaI,true_and→aaJ
open List renaming map_cons→sh,mem_cons→AI,mem_map→AT,take_length→BY,getElem?_cons_succ→IS,filter_append→OF,length_cons→aav,nodup_cons→aay
open Nat renaming add_zero→IT
open Prod.mk renaming injEq→No
open Go Dn
namespace Dn.S
def Ak (b:Int×List UInt8)(r:ae):Int×List UInt8:=if (PV r.Proof).2.2=true/\b.1<(PV r.Proof).1 then ((PV r.Proof).1,(PV r.Proof).2.1) else b
def fQ (L:List ae):Int×List UInt8:=L.foldl Ak (-1,[])
theorem ae7 {b:Int×List UInt8}{r:ae}(h: -1<=b.1): -1<=(Ak b r).1:=by
 unfold Ak;split
 ·rename_i h2;simp only;omega
 ·exact h
theorem ahL (L:List ae): ∀b:Int×List UInt8,-1<=b.1-> -1<=(L.foldl Ak b).1:=by
 induction L with
 |nil=>intro b h;exact h
 |cons r L ih=>intro b h;exact ih _ (ae7 h)
theorem amh (L:List ae)(hl:L.length<2^32):Loop (mT L) ((-1),([]:List UInt8),0)=some (fQ L):=by
 refine bD.eq (bD.count (λk=>(((L.take k).foldl Ak (-1,[])).1,((L.take k).foldl Ak (-1,[])).2,(k:Int))) L.length (λ_=>True) (by simp) trivial (λk hk _=> ?_) (λ_=> ?_))
 ·unfold mT;have SI:=ahL (L.take k) (-1,[]) (by simp);simp only [show ((k:Int)<(L.length:Int)) by omega,if_true,bP hk,PW,ar];rw [wrap64 (by omega) (by omega),oY hk];generalize (L.take k).foldl Ak (-1,[])=b at SI;unfold Ak;by_cases c:b.1<(PV L[k].Proof).1
  ·rw [if_pos c];have jv:0<L[k].Proof.length:=by refine Nat.pos_of_ne_zero λh0=> ?_;rw [List.eq_nil_of_length_eq_zero h0] at c;simp only [PV] at c;omega
   rw [iK jv];have h2:(PV L[k].Proof).2.2=true/\(PV L[k].Proof).2.1=L[k].Proof[0].Value:=by
    revert jv;cases L[k].Proof with
    |nil=>intro h;simp at h
    |cons x y=>intro h;exact ⟨rfl,rfl⟩
   rw [if_pos ⟨h2.1,c⟩];simp only [ar,h2.2];exact .mk ⟨rfl,trivial⟩
  ·rw [if_neg c,if_neg (λh=>c h.2)];simp only [ar];exact .mk ⟨rfl,trivial⟩
 ·unfold mT;simp only [show¬((L.length:Int)<(L.length:Int)) by omega,if_false,BY];exact .mk rfl
theorem ae8 (L:List ae)(hl:L.length<2^32):Loop (sN L) ((-1),([]:List UInt8),0)=some (fQ L):=by
 refine bD.eq (bD.count (λk=>(((L.take k).foldl Ak (-1,[])).1,((L.take k).foldl Ak (-1,[])).2,(k:Int))) L.length (λ_=>True) (by simp) trivial (λk hk _=> ?_) (λ_=> ?_))
 ·unfold sN;simp only [show ((k:Int)<(L.length:Int)) by omega,if_true,bP hk,UR,ar];rw [wrap64 (by omega) (by omega),oY hk];generalize (L.take k).foldl Ak (-1,[])=b;unfold Ak;cases h2:(PV L[k].Proof).2.2 with
  |false=>simp only [fj,if_false,ar,false_and];exact .mk ⟨rfl,trivial⟩
  |true=>
   by_cases c:b.1<(PV L[k].Proof).1
   ·simp only [if_true,c,decide_true,ar,true_and];exact .mk ⟨rfl,trivial⟩
   ·simp only [if_true,c,decide_false,ar,true_and,fj,if_false];exact .mk ⟨rfl,trivial⟩
 ·unfold sN;simp only [show¬((L.length:Int)<(L.length:Int)) by omega,if_false,BY];exact .mk rfl
def C2 (c:Int)(x:List UInt8)(r:ae):Bool:=r.Has&&(decide (c<r.View)&&decide (r.Value=x))
def nj (c:Int)(L:List ae)(x:List UInt8):Nat:=(L.filter (C2 c x)).length
theorem UW {c:Int}{x y:List UInt8}(h:x≠y)(L:List ae):nj c L x+nj c L y<=L.length:=by
 unfold nj;induction L with
 |nil=>simp
 |cons r L ih=>
  simp only [List.filter_cons,aav];have: ¬(C2 c x r=true/\C2 c y r=true):=by rintro ⟨h1,h2⟩;simp only [C2,IN,decide_eq_true_eq] at h1 h2;exact h (h1.2.2.symm.trans h2.2.2)
  cases h1:C2 c x r<;>cases h2:C2 c y r<;>simp [h1,h2] at this⊢ <;>omega
def ma (p:List UInt8×Int):MV:= .cM [.agg [.s p.1],.i .i64 p.2]
def upC:List (List UInt8×Int)->List UInt8->List (List UInt8×Int)
 |[],x=>[(x,1)]
 |p::r,x=>if p.1=x then (p.1,p.2+1)::r else p::upC r x
theorem ahM (E:List (List UInt8×Int))(x:List UInt8)(h: ∀p∈E,0<=p.2/\p.2<2^40): uI (nU (E.map ma) [.s x] (.i .i64 0)) (df (E.map ma) [.s x]) (.i .i64 (IntKind.wrap .i64 (oc (E.map ma) [.s x]+1)))=(upC E x).map ma:=by
 induction E with
 |nil=>simp only [List.map_nil,df,nU,List.length_nil,fc,decide_true,cond_true,List.nil_append,oc,List.getElem?_nil,upC,sh,ma];rw [wrap64 (by omega) (by omega)];rfl
 |cons p E ih=>
  have ih:=ih λq hq=>h q (List.mem_cons_of_mem _ hq);have hk:kn (ma p)=[.s p.1]:=rfl;have he:ft (kn (ma p)) [.s x]=decide (p.1=x):=by rw [hk];simp [ft,GX]
  simp only [sh,upC];by_cases hx:p.1=x
  ·have hb:=h p (by simp);have hm:df (ma p::E.map ma) [.s x]=0:=by simp only [df,he,hx,decide_true,cond_true]
   have hn:nU (ma p::E.map ma) [.s x] (.i .i64 0)=ma p::E.map ma:=by unfold nU;rw [hm,fc];simp
   have hg:oc (ma p::E.map ma) [.s x]=p.2:=by unfold oc;rw [hm];rfl
   rw [hn,hm,hg,wrap64 (by omega) (by omega),if_pos hx];rfl
  ·have hm:df (ma p::E.map ma) [.s x]=df (E.map ma) [.s x]+1:=by simp only [df,he,hx,decide_false,cond_false]
   have hn:nU (ma p::E.map ma) [.s x] (.i .i64 0)=ma p::nU (E.map ma) [.s x] (.i .i64 0):=by
    unfold nU;rw [hm,fc,fc,aav];by_cases hq:df (E.map ma) [.s x]=(E.map ma).length
    ·simp [hq]
    ·have hq': ¬(df (E.map ma) [.s x]+1=(E.map ma).length+1):=by omega
     simp only [hq,hq',decide_false,cond_false]
   have hg:oc (ma p::E.map ma) [.s x]=oc (E.map ma) [.s x]:=by unfold oc;rw [hm,IS]
   rw [hn,hm,hg,if_neg hx,sh,<-ih];unfold uI;rw [IS];cases (nU (E.map ma) [.s x] (.i .i64 0))[df (E.map ma) [.s x]]? <;>rfl
theorem ae9 {E:List (List UInt8×Int)}{x:List UInt8}:(upC E x).map (·.1)=if x∈E.map (·.1) then E.map (·.1) else E.map (·.1)++[x]:=by
 induction E with
 |nil=>simp [upC]
 |cons p E ih=>
  simp only [upC];by_cases hx:p.1=x
  ·rw [if_pos hx];simp [hx]
  ·rw [if_neg hx,sh,ih];have: ¬(x=p.1):=λh=>hx h.symm;by_cases hm:x∈E.map (·.1)
   ·rw [if_pos hm,if_pos (by simp only [sh,AI];exact .inr hm),sh]
   ·rw [if_neg hm,if_neg (by simp only [sh,AI];rintro (h|h);exact this h;exact hm h)];rfl
theorem aam {E:List (List UInt8×Int)}{x:List UInt8}(h:(E.map (·.1)).Nodup):((upC E x).map (·.1)).Nodup:=by
 rw [ae9];split
 ·exact h
 ·rename_i hm;rw [List.nodup_append];refine ⟨h,by simp,λa ha b hb hab=> ?_⟩;simp only [List.mem_singleton] at hb;subst hb;subst hab;exact hm ha
theorem ahN {E:List (List UInt8×Int)}{x y:List UInt8}{n:Int}(h:(E.map (·.1)).Nodup):(y,n)∈upC E x↔(y≠x/\(y,n)∈E)\/(y=x/\((x,n-1)∈E\/(n=1/\x∉E.map (·.1)))):=by
 induction E with
 |nil=>simp [upC]
 |cons p E ih=>
  obtain ⟨h1,h2⟩:=aay.1 h;have ih:=ih h2;obtain ⟨k,m⟩:=p;simp only [upC];simp only at h1;by_cases hx:k=x
  ·subst hx;rw [if_pos rfl];by_cases hy:y=k
   ·subst hy;have eu: ∀n,(y,n)∉E:=λn hm=>h1 (AT.2 ⟨_,hm,rfl⟩);simp only [AI,No,true_and,eu,or_false,ne_eq,not_true_eq_false,false_and,false_or,sh,true_or,not_true_eq_false,and_false];omega
   ·simp [hy]
  ·rw [if_neg hx];simp only [AI,ih,No,sh];by_cases hy:y=x
   ·subst hy;simp [Ne.symm hx,λh:y=k=>hx h.symm]
   ·simp only [hy,false_and,or_false,ne_eq,not_false_eq_true,true_and]
structure Oi (c:Int) (L:List ae) (E:List (List UInt8×Int)):Prop where
 nodup:(E.map (·.1)).Nodup
 mem: ∀x n,(x,n)∈E↔0<nj c L x/\n=(nj c L x:Int)
theorem Oi.nil (c:Int):Oi c [] []:=⟨by simp,by simp [nj]⟩
theorem Oi.skip {c:Int}{L:List ae}{E:List (List UInt8×Int)}{r:ae}(h:Oi c L E)(hr:(r.Has&&decide (c<r.View))=false):Oi c (L++[r]) E:=by
 refine ⟨h.nodup,λx n=> ?_⟩;have:nj c (L++[r]) x=nj c L x:=by
  unfold nj;rw [OF];have:C2 c x r=false:=by unfold C2;rw [<-aaH,hr];rfl
  simp [this]
 rw [this];exact h.mem x n
theorem Oi.add {c:Int}{L:List ae}{E:List (List UInt8×Int)}{r:ae}(h:Oi c L E)(hr:(r.Has&&decide (c<r.View))=true):Oi c (L++[r]) (upC E r.Value):=by
 refine ⟨aam h.nodup,λx n=> ?_⟩;rw [ahN h.nodup];have hc:nj c (L++[r]) x=nj c L x+if r.Value=x then 1 else 0:=by
  unfold nj;rw [OF];have:C2 c x r=decide (r.Value=x):=by unfold C2;rw [<-aaH,hr];rfl
  by_cases hx:r.Value=x<;>simp [this,hx]
 rw [hc];by_cases hx:x=r.Value
 ·subst hx;simp only [if_true,ne_eq,not_true_eq_false,false_and,false_or,true_and,h.mem];have hk:r.Value∉E.map (·.1)↔nj c L r.Value=0:=by
   constructor
   ·intro hm;refine Nat.eq_zero_of_not_pos λhp=>hm ?_;exact AT.2 ⟨_,(h.mem _ _).2 ⟨hp,rfl⟩,rfl⟩
   ·intro h0 hm;obtain ⟨p,hp,he⟩:=AT.1 hm;have:=((h.mem p.1 p.2).1 hp).1;rw [he] at this;omega
  rw [hk];constructor
  ·rintro (⟨h1,h2⟩|⟨h1,h2⟩)
   ·exact ⟨by omega,by omega⟩
   ·exact ⟨by omega,by omega⟩
  ·rintro ⟨_,h2⟩;by_cases h0:nj c L r.Value=0
   ·exact .inr ⟨by omega,h0⟩
   ·exact .inl ⟨by omega,by omega⟩
 ·simp only [hx,ne_eq,not_false_eq_true,true_and,false_and,or_false,if_neg (Ne.symm hx),IT];exact h.mem x n
theorem DI (L:List ae)(w:Int×List UInt8)(hl:L.length<2^32):bD (Loop (qo L w) (([]:List MV),0)) λes=> ∃E,es=E.map ma/\Oi w.1 L E:=by
 refine bD.loop (λst=> ∃(k:Nat) (E:List (List UInt8×Int)),k<=L.length/\st=(E.map ma,(k:Int))/\Oi w.1 (L.take k) E) (λst=>((L.length:Int)-st.2).toNat) ⟨0,[],Nat.zero_le _,rfl,.nil _⟩ ?_;rintro st ⟨k,E,hk,rfl,hE⟩;unfold qo;by_cases eE:k<L.length
 ·simp only [show ((k:Int)<(L.length:Int)) by omega,if_true,bP eE];rw [wrap64 (x:=(k:Int)+1) (by omega) (by omega)];have M6:L.take (k+1)=L.take k++[L[k]]:=by rw [List.take_add_one,List.getElem?_eq_getElem eE];rfl
  have XH:(if L[k].Has then some (decide (w.1<L[k].View)) else some false:Option Bool)=some (L[k].Has&&decide (w.1<L[k].View)):=by cases L[k].Has<;>rfl
  rw [XH];simp only [ar];cases hh:L[k].Has&&decide (w.1<L[k].View) with
  |true=>
   rw [ahM E L[k].Value]
   ·simp only [if_true,ar];refine .mk ⟨⟨k+1,_,by omega,rfl,?_⟩,by simp only;omega⟩;rw [M6];exact hE.add hh
   ·intro p hp;obtain ⟨h1,h2⟩:=(hE.mem p.1 p.2).1 hp;have:nj w.1 (L.take k) p.1<=L.length:=by unfold nj;exact ni
    omega
  |false=>simp only [fj,if_false,ar];refine .mk ⟨⟨k+1,E,by omega,rfl,?_⟩,by simp only;omega⟩;rw [M6];exact hE.skip hh
 ·simp only [show¬((k:Int)<(L.length:Int)) by omega,if_false];refine .mk ⟨E,rfl,?_⟩;rw [List.take_of_length_le (by omega)] at hE;exact hE
def MB (V:Int)(L:List ae)(res:List UInt8×Bool):Prop:=(∃x,V<=(nj (fQ L).1 L x:Int)/\res=(x,true))\/((∀x,(nj (fQ L).1 L x:Int)<V)/\res=((fQ L).2,decide (0<=(fQ L).1)))
theorem MB.uniq {V:Int}{L:List ae} {r r':List UInt8×Bool}(hV:(L.length:Int)<2 *V)(h:MB V L r) (h':MB V L r'):r=r':=by
 rcases h with ⟨x,h1,rfl⟩|⟨h1,rfl⟩<;>rcases h' with ⟨y,h2,rfl⟩|⟨h2,rfl⟩
 ·by_cases hxy:x=y
  ·rw [hxy]
  ·have:=UW (c:=(fQ L).1) hxy L;omega
 ·have:=h2 x;omega
 ·have:=h1 y;omega
 ·rfl
theorem asV {V:Int}{f:MV->Option (Sum Unit (Unit⊕(List UInt8×Bool)))}{d:Option (Unit⊕(List UInt8×Bool))}(hd:d=some (.inl ()))(hf: ∀p,f (ma p)=if V<=p.2 then some (.inr (.inr (p.1,true))) else some (.inl ())): ∀(E:List (List UInt8×Int)),(E.map (·.1)).Nodup->(∀p∈E,∀q∈E,V<=p.2->V<=q.2->p.1=q.1)->bD (uS f d (E.map ma)) λr=>(∃p∈E,V<=p.2/\r= .inr (p.1,true))\/((∀p∈E,p.2<V)/\r= .inl ()):=by
 intro E;induction E with
 |nil=>intro _ _;rw [hd];exact .mk (.inr ⟨by simp,rfl⟩)
 |cons p E ih=>
  intro hn hu;obtain ⟨h1,h2⟩:=aay.1 hn;simp only [sh,uS,hf];by_cases hp:V<=p.2
  ·rw [if_pos hp];have mz:(E.map ma).all (λy=>zm (f y))=true:=by
    rw [List.all_eq_true];intro m hm;obtain ⟨q,hq,rfl⟩:=AT.1 hm;rw [hf];by_cases hV:V<=q.2
    ·have:=hu p (by simp) q (by simp [hq]) hp hV;exact absurd (AT.2 ⟨q,hq,this.symm⟩) h1
    ·rw [if_neg hV];rfl
   simp only [mz,cond_true];exact .mk (.inl ⟨p,by simp,hp,rfl⟩)
  ·rw [if_neg hp];refine (ih h2 λa ha b hb=>hu a (by simp [ha]) b (by simp [hb])).imp ?_;rintro r (⟨q,hq,h3,h4⟩|⟨h3,h4⟩)
   ·exact .inl ⟨q,by simp [hq],h3,h4⟩
   ·refine .inr ⟨λq hq=> ?_,h4⟩;rcases AI.1 hq with rfl|hq
    ·omega
    ·exact h3 q hq
theorem UX {s:ak}(hs:cR s)(L:List ae)(hn:(L.length:Int)=2 *s.F+2 *s.T+1):bD (ny s L) (MB (s.F+s.T+1) L):=by
 have hso:=(eZ s).1 hs;have hl:L.length<2^32:=by omega
 unfold ny;rw [amh L hl];simp only [ar];refine bD.bd (DI L (fQ L) hl) ?_;rintro es ⟨E,rfl,hE⟩;have hu: ∀p∈E,∀q∈E,s.F+s.T+1<=p.2->s.F+s.T+1<=q.2->p.1=q.1:=by
  intro p hp q hq h1 h2;have e1:=((hE.mem p.1 p.2).1 hp).2;have e2:=((hE.mem q.1 q.2).1 hq).2;by_cases eu:p.1=q.1
  ·exact eu
  ·have:=UW (c:=(fQ L).1) eu L;omega
 refine bD.bd (asV (V:=s.F+s.T+1) (f:=qp s) rfl (λp=> ?_) E hE.nodup hu) ?_
 ·unfold qp;rw [RT hs];simp only [ma,Tn,gT,gC,gA,gN,gS,gI,decide_true,cond_true,ar]
 ·rintro r (⟨p,hp,h1,rfl⟩|⟨h1,rfl⟩)
  ·refine .mk (.inl ⟨p.1,?_,rfl⟩);have:=((hE.mem p.1 p.2).1 hp).2;omega
  ·refine .mk (.inr ⟨λx=> ?_,?_⟩)
   ·by_cases h0:0<nj (fQ L).1 L x
    ·exact h1 (x,_) ((hE.mem x _).2 ⟨h0,rfl⟩)
    ·omega
   ·simp only [No,true_and,decide_eq_decide];omega
theorem MC {s:ak}(hs:cR s)(L:List ae)(hn:(L.length:Int)=2 *s.F+2 *s.T+1):bD (ul (vF s) L) (MB (s.F+s.T+1) L):=by
 have hso:=(eZ s).1 hs;have hl:L.length<2^32:=by omega
 unfold ul;rw [ae8 L hl];simp only [ar];have ae2: ∀k (hk:k<L.length),Loop (sO L (fQ L) (k:Int)) (0,0)=some (if L[k].Has=true/\(fQ L).1<L[k].View then (nj (fQ L).1 L L[k].Value:Int) else 0):=by
  intro k hk;refine bD.eq (bD.count (λj=>(if L[k].Has=true/\(fQ L).1<L[k].View then (nj (fQ L).1 (L.take j) L[k].Value:Int) else 0,(j:Int))) L.length (λ_=>True) (by simp [nj]) trivial (λj hj _=> ?_) (λ_=> ?_))
  ·unfold sO;simp only [show ((j:Int)<(L.length:Int)) by omega,if_true,bP hj,bP hk];rw [wrap64 (x:=(j:Int)+1) (by omega) (by omega)];have hle:nj (fQ L).1 (L.take j) L[k].Value<=L.length:=by unfold nj;exact ni
   have AS:nj (fQ L).1 (L.take (j+1)) L[k].Value=nj (fQ L).1 (L.take j) L[k].Value+if C2 (fQ L).1 L[k].Value L[j] then 1 else 0:=by unfold nj;rw [nH hj,List.length_append];cases C2 (fQ L).1 L[k].Value L[j]<;>simp
   rw [AS];by_cases g:L[k].Has=true/\(fQ L).1<L[k].View
   ·simp only [if_pos g];obtain ⟨g1,g2⟩:=g;simp only [g1,g2,if_true];unfold C2;cases a1:L[j].Has with
    |false=>simp only [fj,if_false,ar,aaI,IT];exact .mk ⟨rfl,trivial⟩
    |true=>
     simp only [if_true,aaJ];by_cases a2:(fQ L).1<L[j].View
     ·simp only [a2,if_true,decide_true,aaJ,ar];by_cases a3:L[j].Value=L[k].Value
      ·simp only [a3,decide_true,if_true,ar];rw [wrap64 (by omega) (by omega)];exact .mk ⟨by simp,trivial⟩
      ·simp only [a3,decide_false,fj,if_false,ar,IT];exact .mk ⟨rfl,trivial⟩
     ·simp only [a2,if_false,decide_false,aaI,fj,ar,IT];exact .mk ⟨rfl,trivial⟩
   ·simp only [if_neg g];have:(if L[j].Has then if (fQ L).1<L[j].View then if L[k].Has then if (fQ L).1<L[k].View then some (decide (L[j].Value=L[k].Value)) else some false else some false else some false else some false:Option Bool)=some false:=by cases b1:L[j].Has<;>by_cases b2:(fQ L).1<L[j].View<;>cases b3:L[k].Has<;>by_cases b4:(fQ L).1<L[k].View<;>simp [b1,b2,b3,b4]<;>exact absurd ⟨b3,b4⟩ g
    rw [this];simp only [ar,fj,if_false];exact .mk ⟨rfl,trivial⟩
  ·unfold sO;simp only [show¬((L.length:Int)<(L.length:Int)) by omega,if_false,BY];exact .mk rfl
 have no: ∀k (hk:k<L.length),¬(s.F+s.T+1<=if L[k].Has=true/\(fQ L).1<L[k].View then (nj (fQ L).1 L L[k].Value:Int) else 0)->C2 (fQ L).1 L[k].Value L[k]=true->(nj (fQ L).1 L L[k].Value:Int)<s.F+s.T+1:=by intro k hk h1 h2;simp only [C2,IN,decide_eq_true_eq] at h2;rw [if_pos ⟨h2.1,h2.2.1⟩] at h1;omega
 refine bD.bd (P:=λr=>(∃k,∃hk:k<L.length,s.F+s.T+1<=(if L[k].Has=true/\(fQ L).1<L[k].View then (nj (fQ L).1 L L[k].Value:Int) else 0)/\r= .inr (L[k].Value,true))\/((∀k (hk:k<L.length),¬(s.F+s.T+1<=if L[k].Has=true/\(fQ L).1<L[k].View then (nj (fQ L).1 L L[k].Value:Int) else 0))/\r= .inl ())) (bD.count (λk=>(k:Int)) L.length (λk=> ∀j (hj:j<L.length),j<k-> ¬(s.F+s.T+1<=if L[j].Has=true/\(fQ L).1<L[j].View then (nj (fQ L).1 L L[j].Value:Int) else 0)) rfl (λj _ hj=>by omega) (λk hk hp=> ?_) (λhp=> ?_)) ?_
 ·unfold wH;simp only [show ((k:Int)<(L.length:Int)) by omega,if_true,ae2 k hk,UQ hs,ar,bP hk];rw [wrap64 (by omega) (by omega)];by_cases g:s.F+s.T+1<=if L[k].Has=true/\(fQ L).1<L[k].View then (nj (fQ L).1 L L[k].Value:Int) else 0
  ·simp only [g,if_true];exact .mk (.inl ⟨k,hk,g,rfl⟩)
  ·simp only [g,if_false];refine .mk ⟨by omega,λj hj hjk=> ?_⟩;by_cases MD:j=k
   ·subst MD;exact g
   ·exact hp j hj (by omega)
 ·unfold wH;simp only [show¬((L.length:Int)<(L.length:Int)) by omega,if_false];exact .mk (.inr ⟨λk hk=>hp k hk hk,rfl⟩)
 ·rintro r (⟨k,hk,h1,rfl⟩|⟨h1,rfl⟩)
  ·refine .mk (.inl ⟨L[k].Value,?_,rfl⟩);by_cases g:L[k].Has=true/\(fQ L).1<L[k].View
   ·rw [if_pos g] at h1;exact h1
   ·rw [if_neg g] at h1;omega
  ·refine .mk (.inr ⟨λx=> ?_,rfl⟩);by_cases h0:0<nj (fQ L).1 L x
   ·unfold nj at h0;obtain ⟨r,hr⟩:=List.exists_mem_of_length_pos h0;obtain ⟨AW,Ju⟩:=List.mem_filter.1 hr;obtain ⟨k,hk,rfl⟩:=List.mem_iff_getElem.1 AW;have hx:L[k].Value=x:=by simp only [C2,IN,decide_eq_true_eq] at Ju;exact Ju.2.2
    subst hx;exact no k hk (h1 k hk) Ju
   ·omega
theorem RU (s:ak)(view:Int)(L:List ae)(x:List UInt8)(hp: ∀r∈L,r.Proof.length<2^32)(hl:L.length<2^32):bD (mU s view L x) λb=>ia (vF s) view L x=some b:=by
 unfold mU ia;obtain ⟨b1,e1,h1⟩:=UT s view L hp hl;obtain ⟨b2,e2,h2⟩:=UU s view L hp hl;rw [e1,e2];have:b1=b2:=by cases b1<;>cases b2<;>simp_all
 subst this;simp only [ar];cases b1 with
 |false=>exact .mk rfl
 |true=>
  have hr:=h1.1 rfl;simp only [Bool.not_true,fj,if_false];obtain ⟨r,e3,h3⟩:=UX hr.1 L hr.2.1;obtain ⟨r',e4,h4⟩:=MC hr.1 L hr.2.1;have hso:=(eZ s).1 hr.1;have:=h3.uniq (by have:=hr.2.1;omega) h4;subst this;rw [e3,e4];simp only [ar,PT];cases r.2 with
  |false=>exact .mk rfl
  |true=>exact .mk rfl
end Dn.S
