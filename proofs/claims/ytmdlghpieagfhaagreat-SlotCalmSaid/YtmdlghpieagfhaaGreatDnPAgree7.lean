import Derived.Test.YtmdlghpieagfhaaGreatDnPAgree6
/- What is sound. Conditions: none. -/
set_option linter.unusedVariables false
set_option linter.unusedSimpArgs false
open List renaming getElem_mem→cV,any_eq_true→sh,getElem?_eq_getElem→AI,take_add_one→IT,take_length→No,any_append→aau
open Bool renaming false_eq_true→AT,and_eq_true→OF,or_eq_true→aaJ
open Option.some renaming inj→BY
open Go Dn
namespace Dn.S
theorem EX {l:List ai}{f:ai->Option Bool}{q:ai->Bool}(hf: ∀s∈l,f s=some (q s))(hl:l.length<2^32):bD l f=some (l.any q):=by
 obtain ⟨r,e,hr⟩: ∃r,Loop (cP l f) 0=some r/\((r= .inl ()/\l.any q=false)\/((∃k:Nat,r= .inr (k:Int))/\l.any q=true)):=by
  refine aK.count (λk=>(k:Int)) l.length (λk=>(l.take k).any q=false) rfl rfl (λk hk hp=> ?_) (λhp=> ?_)
  ·unfold cP;rw [if_pos (by omega),bB hk,hf _ (cV hk),au];cases hq:q l[k] with
   |true=>simp only [if_true];exact .mk (.inr ⟨⟨k,rfl⟩,sh.2 ⟨_,cV hk,hq⟩⟩)
   |false=>simp only [AT,if_false];rw [wrap64 (by omega) (by omega)];refine .mk ⟨by omega,?_⟩;rw [IT,AI hk,aau,hp];simp [hq]
  ·unfold cP;rw [if_neg (by omega)];rw [No] at hp;exact .mk (.inl ⟨rfl,hp⟩)
 unfold bD fj;rw [e];rcases hr with ⟨rfl,h⟩|⟨⟨k,rfl⟩,h⟩<;>simp only [au,h]
 ·rfl
 ·simp
theorem Pz {l:List aa}{f:aa->Option Bool}{q:aa->Bool}(hf: ∀s∈l,f s=some (q s))(hl:l.length<2^32):ck l f=some (l.any q):=by
 obtain ⟨r,e,hr⟩: ∃r,Loop (cu l f) 0=some r/\((r= .inl ()/\l.any q=false)\/((∃k:Nat,r= .inr (k:Int))/\l.any q=true)):=by
  refine aK.count (λk=>(k:Int)) l.length (λk=>(l.take k).any q=false) rfl rfl (λk hk hp=> ?_) (λhp=> ?_)
  ·unfold cu;rw [if_pos (by omega),bB hk,hf _ (cV hk),au];cases hq:q l[k] with
   |true=>simp only [if_true];exact .mk (.inr ⟨⟨k,rfl⟩,sh.2 ⟨_,cV hk,hq⟩⟩)
   |false=>simp only [AT,if_false];rw [wrap64 (by omega) (by omega)];refine .mk ⟨by omega,?_⟩;rw [IT,AI hk,aau,hp];simp [hq]
  ·unfold cu;rw [if_neg (by omega)];rw [No] at hp;exact .mk (.inl ⟨rfl,hp⟩)
 unfold ck eG;rw [e];rcases hr with ⟨rfl,h⟩|⟨⟨k,rfl⟩,h⟩<;>simp only [au,h]
 ·rfl
 ·simp
theorem PA {l:List ab}{f:ab->Option Bool}{q:ab->Bool}(hf: ∀s∈l,f s=some (q s))(hl:l.length<2^32):cm l f=some (l.any q):=by
 obtain ⟨r,e,hr⟩: ∃r,Loop (cw l f) 0=some r/\((r= .inl ()/\l.any q=false)\/((∃k:Nat,r= .inr (k:Int))/\l.any q=true)):=by
  refine aK.count (λk=>(k:Int)) l.length (λk=>(l.take k).any q=false) rfl rfl (λk hk hp=> ?_) (λhp=> ?_)
  ·unfold cw;rw [if_pos (by omega),bB hk,hf _ (cV hk),au];cases hq:q l[k] with
   |true=>simp only [if_true];exact .mk (.inr ⟨⟨k,rfl⟩,sh.2 ⟨_,cV hk,hq⟩⟩)
   |false=>simp only [AT,if_false];rw [wrap64 (by omega) (by omega)];refine .mk ⟨by omega,?_⟩;rw [IT,AI hk,aau,hp];simp [hq]
  ·unfold cw;rw [if_neg (by omega)];rw [No] at hp;exact .mk (.inl ⟨rfl,hp⟩)
 unfold cm eH;rw [e];rcases hr with ⟨rfl,h⟩|⟨⟨k,rfl⟩,h⟩<;>simp only [au,h]
 ·rfl
 ·simp
def EY (c:aj)(a:aa):Bool:=decide (0<=a.By/\c.bY[a.By.toNat]? =some true)||c.aC.any λm=>decide (m.Kind=2)&&decide (m.bM=a)
theorem Yk {c:aj}(hp:c.aC.length<=400)(a:aa):jH c a=some (EY c a):=by
 unfold jH EY;rw [nS,au,EX (q:=λm=>decide (m.Kind=2)&&decide (m.bM=a)) (λm hm=> ?_) (by omega)]
 ·generalize decide (0<=a.By/\c.bY[a.By.toNat]? =some true)=b;cases b<;>simp
 ·unfold il;obtain ⟨k,f,v,va,ce,⟨x1,x2,x3⟩,pr,r⟩:=m;obtain ⟨y1,y2,y3⟩:=a;simp only;by_cases k2:k=2<;>by_cases c1:x1=y1<;>by_cases c2:x2=y2<;>by_cases c3:x3=y3<;>simp [k2,c1,c2,c3]
theorem Bj {c:aj}(hp:c.aC.length<=400){L:List aa}(hl:L.length<2^32):dR c L=some (L.all (EY c)):=by
 unfold dR;rw [Pz (q:=λa=>!EY c a) (λa _=>by unfold fQ;rw [Yk hp,au]) hl,au];congr 1;induction L with
 |nil=>rfl
 |cons a L ih=>simp only [List.any_cons,List.all_cons,Bool.not_or,Bool.not_not];rw [ih (by simp only [List.length_cons] at hl;omega)]
theorem aft {F T:Nat}{bad:List Bool}{g:Gh}{c:aj}(hb:c.bY=bad)(h:qt F T bad g c){a:aa}(hv:EY c a=true):L7 bad a.By\/g.V a:=by
 unfold EY at hv;rw [aaJ] at hv;rcases hv with hv|hv
 ·obtain ⟨h0,h1⟩:=of_decide_eq_true hv;rw [hb] at h1;exact .inl ⟨h0,by unfold wK;rw [h1];rfl⟩
 ·obtain ⟨m,hm,hq⟩:=sh.1 hv;simp only [OF,decide_eq_true_eq] at hq;rw [<-hq.2];exact (h.lI m hm).UG hq.1
theorem PB {F T:Nat}{bad:List Bool}{g:Gh}{c:aj}(hb:c.bY=bad)(h:qt F T bad g c){L:List aa}(hv:L.all (EY c)=true):Real bad g.V L:=λe he=>aft hb h (List.all_eq_true.1 hv e he)
theorem L9 (r x:ab)(h:r.Proof.length<2^60):mP [r] [x]=some (decide (r=x)):=by
 unfold mP bP;simp only [List.length_singleton,decide_true,Bool.not_true,AT,if_false];have:Loop (bp [r] [x] kc) 0=some (if r=x then .inl () else .inr false):=by
  refine aK.eq (aK.count (λk=>(k:Int)) 1 (λk=>k=1->r=x) rfl (λh=>by omega) (λk hk hp=> ?_) (λhp=> ?_))
  ·have:k=0:=by omega
   subst this;unfold bp;rw [if_pos (by simp),bB (by simp),bB (by simp)];simp only [List.getElem_cons_zero];rw [G8 _ _ h,au];by_cases he:r=x
   ·rw [decide_eq_true he,if_neg (by simp),wrap64 (by omega) (by omega)];exact .mk ⟨rfl,λ_=>he⟩
   ·rw [decide_eq_false he,if_pos (by simp),if_neg he];exact .mk rfl
  ·unfold bp;rw [if_neg (by simp),if_pos (hp rfl)];exact .mk rfl
 rw [this,au];by_cases he:r=x
 ·rw [if_pos he,decide_eq_true he];rfl
 ·rw [if_neg he,decide_eq_false he];rfl
def acI (c:aj)(r:ab):Bool:=c.aC.any λm=>decide (m.Kind=4)&&decide (m.R=r)
def BX (c:aj)(r:ab):Bool:=(decide (0<=r.By/\c.bY[r.By.toNat]? =some true)&&r.Proof.all (EY c))||acI c r
theorem Sd {c:aj}(hp:c.aC.length<=400)(hr: ∀m∈c.aC,m.R.Proof.length<2^32){r:ab}(hl:r.Proof.length<2^32):fM c r=some (BX c r):=by
 have hc:bD c.aC (λu=>cK u r)=some (acI c r):=by refine EX (λm hm=> ?_) (by omega);unfold cK;rw [L9 _ _ (by have:=hr m hm;omega)];by_cases k:m.Kind=4<;>simp [k]
 unfold fM BX;rw [nS,au,Bj hp hl,au,hc];generalize decide (0<=r.By/\c.bY[r.By.toNat]? =some true)=b;generalize r.Proof.all (EY c)=d;cases b<;>cases d<;>simp
theorem Yl {F T:Nat}{bad:List Bool}{g:Gh}{c:aj}(hb:c.bY=bad)(h:qt F T bad g c){r:ab}(hv:BX c r=true):(L7 bad r.By\/g.R r)/\Real bad g.V r.Proof:=by
 unfold BX at hv;rw [aaJ,OF] at hv;rcases hv with ⟨hv,h2⟩|hv
 ·obtain ⟨h0,h1⟩:=of_decide_eq_true hv;rw [hb] at h1;exact ⟨.inl ⟨h0,by unfold wK;rw [h1];rfl⟩,PB hb h h2⟩
 ·unfold acI at hv;obtain ⟨m,hm,hq⟩:=sh.1 hv;simp only [OF,decide_eq_true_eq] at hq;rw [<-hq.2];exact (h.lI m hm).Ws hq.1
theorem afu {F T:Nat}{bad:List Bool}{g:Gh}{c:aj}(hb:c.bY=bad)(h:qt F T bad g c)(hp:c.aC.length<=400)(hr: ∀m∈c.aC,m.R.Proof.length<2^32){m:ai}(hm:acA m)(hs:lh c m=some true):L8 bad g m:=by
 have hB: ∀{b:Int},(0<=b/\c.bY[b.toNat]? =some true)->L7 bad b:=λ⟨h0,h1⟩=>by rw [hb] at h1;exact ⟨h0,by unfold wK;rw [h1];rfl⟩
 have ayZ: ∀{P:Prop} [Decidable P] {y:Bool},(bd (some (decide P)) λrA=>if rA then (some y:Option Bool) else some false)=some true->P/\y=true:=by intro P _ y h;by_cases hp:P<;>simp [hp] at h;exact ⟨hp,h⟩
 unfold lh at hs;by_cases k1:m.Kind=1
 ·rw [if_pos k1,nS,PA (q:=λr=>!BX c r) (λr CU=>by unfold nu;rw [Sd hp hr (hm.G6 r CU),au]) (by have:=hm.gJ;omega)] at hs;simp only [au] at hs;have Qb:(m.fC.any λr=>!BX c r)=false:=by
   by_cases hq:0<=m.cN/\c.bY[m.cN.toNat]? =some true
   ·simpa [hq] using hs
   ·rw [decide_eq_false hq] at hs;simp at hs
  refine ⟨λ_ r CU=>Yl hb h ?_,λk=>by omega,λk=>by omega,λk=>by omega,λk=>by omega⟩;have:=List.any_eq_false.1 Qb r CU;simpa using this
 rw [if_neg k1] at hs;by_cases k2:m.Kind=2
 ·rw [if_pos k2,nS,au] at hs;exact ⟨λk=>by omega,λ_=> .inl (hB (of_decide_eq_true (BY hs))),λk=>by omega,λk=>by omega,λk=>by omega⟩
 rw [if_neg k2] at hs;by_cases k3:m.Kind=3
 ·rw [if_pos k3,nS,Bj hp hm.proof] at hs;simp only [au] at hs;by_cases hq:0<=m.cN/\c.bY[m.cN.toNat]? =some true
  ·rw [decide_eq_true hq,if_pos rfl,au] at hs;exact ⟨λk=>by omega,λk=>by omega,λ_=>⟨PB hb h (BY hs),.inl (hB hq)⟩,λk=>by omega,λk=>by omega⟩
  ·rw [decide_eq_false hq] at hs;simp at hs
 rw [if_neg k3] at hs;by_cases k4:m.Kind=4
 ·rw [if_pos k4,nS,Bj hp hm.r] at hs;simp only [au] at hs;by_cases hq:0<=m.R.By/\c.bY[m.R.By.toNat]? =some true
  ·rw [decide_eq_true hq,if_pos rfl,au] at hs;exact ⟨λk=>by omega,λk=>by omega,λk=>by omega,λ_=>⟨.inl (hB hq),PB hb h (BY hs)⟩,λk=>by omega⟩
  ·rw [decide_eq_false hq] at hs;simp at hs
 rw [if_neg k4] at hs;by_cases k5:m.Kind=5
 ·rw [if_pos k5,nS,au] at hs;exact ⟨λk=>by omega,λk=>by omega,λk=>by omega,λk=>by omega,λ_=> .inl (hB (of_decide_eq_true (BY hs)))⟩
 ·rw [if_neg k5] at hs;simp at hs
end Dn.S
