import Derived.Test.YtmdlghpieagfhaaGreatDnPAgree6
/-
  What is sound. Conditions: none.
-/
set_option linter.unusedVariables false
set_option linter.unusedSimpArgs false
open List renaming getElem_mem→cM,any_eq_true→sh,getElem?_eq_getElem→AI,take_add_one→IT,take_length→No,any_append→aaf
open Bool renaming false_eq_true→AT,and_eq_true→OF,or_eq_true→aaT
open Option.some renaming inj→BY
open Go Dn
namespace Dn.S
theorem Ey {l:List al}{f:al->Option Bool}{q:al->Bool}(hf: ∀s∈l,f s=some (q s))(hl:l.length<2^32):bD l f=some (l.any q):=by
 obtain ⟨r,e,hr⟩: ∃r,Loop (cI l f) 0=some r/\((r= .inl ()/\l.any q=false)\/((∃k:Nat,r= .inr (k:Int))/\l.any q=true)):=by
  refine aL.count (λk=>(k:Int)) l.length (λk=>(l.take k).any q=false) rfl rfl (λk hk hp=> ?_) (λhp=> ?_)
  ·unfold cI;rw [if_pos (by omega),bA hk,hf _ (cM hk),au];cases hq:q l[k] with
   |true=>simp only [if_true];exact .mk (.inr ⟨⟨k,rfl⟩,sh.2 ⟨_,cM hk,hq⟩⟩)
   |false=>simp only [AT,if_false];rw [wrap64 (by omega) (by omega)];refine .mk ⟨by omega,?_⟩;rw [IT,AI hk,aaf,hp];simp [hq]
  ·unfold cI;rw [if_neg (by omega)];rw [No] at hp;exact .mk (.inl ⟨rfl,hp⟩)
 unfold bD fb;rw [e];rcases hr with ⟨rfl,h⟩|⟨⟨k,rfl⟩,h⟩<;>simp only [au,h]
 ·rfl
 ·simp
theorem O4 {l:List aa}{f:aa->Option Bool}{q:aa->Bool}(hf: ∀s∈l,f s=some (q s))(hl:l.length<2^32):cc l f=some (l.any q):=by
 obtain ⟨r,e,hr⟩: ∃r,Loop (cn l f) 0=some r/\((r= .inl ()/\l.any q=false)\/((∃k:Nat,r= .inr (k:Int))/\l.any q=true)):=by
  refine aL.count (λk=>(k:Int)) l.length (λk=>(l.take k).any q=false) rfl rfl (λk hk hp=> ?_) (λhp=> ?_)
  ·unfold cn;rw [if_pos (by omega),bA hk,hf _ (cM hk),au];cases hq:q l[k] with
   |true=>simp only [if_true];exact .mk (.inr ⟨⟨k,rfl⟩,sh.2 ⟨_,cM hk,hq⟩⟩)
   |false=>simp only [AT,if_false];rw [wrap64 (by omega) (by omega)];refine .mk ⟨by omega,?_⟩;rw [IT,AI hk,aaf,hp];simp [hq]
  ·unfold cn;rw [if_neg (by omega)];rw [No] at hp;exact .mk (.inl ⟨rfl,hp⟩)
 unfold cc ei;rw [e];rcases hr with ⟨rfl,h⟩|⟨⟨k,rfl⟩,h⟩<;>simp only [au,h]
 ·rfl
 ·simp
theorem O5 {l:List ab}{f:ab->Option Bool}{q:ab->Bool}(hf: ∀s∈l,f s=some (q s))(hl:l.length<2^32):cf l f=some (l.any q):=by
 obtain ⟨r,e,hr⟩: ∃r,Loop (cq l f) 0=some r/\((r= .inl ()/\l.any q=false)\/((∃k:Nat,r= .inr (k:Int))/\l.any q=true)):=by
  refine aL.count (λk=>(k:Int)) l.length (λk=>(l.take k).any q=false) rfl rfl (λk hk hp=> ?_) (λhp=> ?_)
  ·unfold cq;rw [if_pos (by omega),bA hk,hf _ (cM hk),au];cases hq:q l[k] with
   |true=>simp only [if_true];exact .mk (.inr ⟨⟨k,rfl⟩,sh.2 ⟨_,cM hk,hq⟩⟩)
   |false=>simp only [AT,if_false];rw [wrap64 (by omega) (by omega)];refine .mk ⟨by omega,?_⟩;rw [IT,AI hk,aaf,hp];simp [hq]
  ·unfold cq;rw [if_neg (by omega)];rw [No] at hp;exact .mk (.inl ⟨rfl,hp⟩)
 unfold cf ej;rw [e];rcases hr with ⟨rfl,h⟩|⟨⟨k,rfl⟩,h⟩<;>simp only [au,h]
 ·rfl
 ·simp
def Ez (c:aj)(a:aa):Bool:=decide (0<=a.By/\c.bY[a.By.toNat]? =some true)||c.aV.any λm=>decide (m.Kind=2)&&decide (m.dv=a)
theorem XK {c:aj}(hp:c.aV.length<=400)(a:aa):jv c a=some (Ez c a):=by
 unfold jv Ez;rw [mQ,au,Ey (q:=λm=>decide (m.Kind=2)&&decide (m.dv=a)) (λm hm=> ?_) (by omega)]
 ·generalize decide (0<=a.By/\c.bY[a.By.toNat]? =some true)=b;cases b<;>simp
 ·unfold hU;obtain ⟨k,f,v,va,ce,⟨x1,x2,x3⟩,pr,r⟩:=m;obtain ⟨y1,y2,y3⟩:=a;simp only;by_cases k2:k=2<;>by_cases c1:x1=y1<;>by_cases c2:x2=y2<;>by_cases c3:x3=y3<;>simp [k2,c1,c2,c3]
theorem AR {c:aj}(hp:c.aV.length<=400){L:List aa}(hl:L.length<2^32):dG c L=some (L.all (Ez c)):=by
 unfold dG;rw [O4 (q:=λa=>!Ez c a) (λa _=>by unfold fL;rw [XK hp,au]) hl,au];congr 1;induction L with
 |nil=>rfl
 |cons a L ih=>simp only [List.any_cons,List.all_cons,Bool.not_or,Bool.not_not];rw [ih (by simp only [List.length_cons] at hl;omega)]
theorem aeR {F T:Nat}{bad:List Bool}{g:Gh}{c:aj}(hb:c.bY=bad)(h:nB F T bad g c){a:aa}(hv:Ez c a=true):M8 bad a.By\/g.V a:=by
 unfold Ez at hv;rw [aaT] at hv;rcases hv with hv|hv
 ·obtain ⟨h0,h1⟩:=of_decide_eq_true hv;rw [hb] at h1;exact .inl ⟨h0,by unfold xi;rw [h1];rfl⟩
 ·obtain ⟨m,hm,hq⟩:=sh.1 hv;simp only [OF,decide_eq_true_eq] at hq;rw [<-hq.2];exact (h.r9 m hm).aeF hq.1
theorem O6 {F T:Nat}{bad:List Bool}{g:Gh}{c:aj}(hb:c.bY=bad)(h:nB F T bad g c){L:List aa}(hv:L.all (Ez c)=true):Real bad g.V L:=λe he=>aeR hb h (List.all_eq_true.1 hv e he)
theorem LC (r x:ab)(h:r.Proof.length<2^60):mB [r] [x]=some (decide (r=x)):=by
 unfold mB bN;simp only [List.length_singleton,decide_true,Bool.not_true,AT,if_false];have:Loop (bp [r] [x] jY) 0=some (if r=x then .inl () else .inr false):=by
  refine aL.eq (aL.count (λk=>(k:Int)) 1 (λk=>k=1->r=x) rfl (λh=>by omega) (λk hk hp=> ?_) (λhp=> ?_))
  ·have:k=0:=by omega
   subst this;unfold bp;rw [if_pos (by simp),bA (by simp),bA (by simp)];simp only [List.getElem_cons_zero];rw [GF _ _ h,au];by_cases he:r=x
   ·rw [decide_eq_true he,if_neg (by simp),wrap64 (by omega) (by omega)];exact .mk ⟨rfl,λ_=>he⟩
   ·rw [decide_eq_false he,if_pos (by simp),if_neg he];exact .mk rfl
  ·unfold bp;rw [if_neg (by simp),if_pos (hp rfl)];exact .mk rfl
 rw [this,au];by_cases he:r=x
 ·rw [if_pos he,decide_eq_true he];rfl
 ·rw [if_neg he,decide_eq_false he];rfl
def ab0 (c:aj)(r:ab):Bool:=c.aV.any λm=>decide (m.Kind=4)&&decide (m.R=r)
def Bt (c:aj)(r:ab):Bool:=(decide (0<=r.By/\c.bY[r.By.toNat]? =some true)&&r.Proof.all (Ez c))||ab0 c r
theorem RL {c:aj}(hp:c.aV.length<=400)(hr: ∀m∈c.aV,m.R.Proof.length<2^32){r:ab}(hl:r.Proof.length<2^32):fG c r=some (Bt c r):=by
 have hc:bD c.aV (λu=>cD u r)=some (ab0 c r):=by refine Ey (λm hm=> ?_) (by omega);unfold cD;rw [LC _ _ (by have:=hr m hm;omega)];by_cases k:m.Kind=4<;>simp [k]
 unfold fG Bt;rw [mQ,au,AR hp hl,au,hc];generalize decide (0<=r.By/\c.bY[r.By.toNat]? =some true)=b;generalize r.Proof.all (Ez c)=d;cases b<;>cases d<;>simp
theorem XL {F T:Nat}{bad:List Bool}{g:Gh}{c:aj}(hb:c.bY=bad)(h:nB F T bad g c){r:ab}(hv:Bt c r=true):(M8 bad r.By\/g.R r)/\Real bad g.V r.Proof:=by
 unfold Bt at hv;rw [aaT,OF] at hv;rcases hv with ⟨hv,h2⟩|hv
 ·obtain ⟨h0,h1⟩:=of_decide_eq_true hv;rw [hb] at h1;exact ⟨.inl ⟨h0,by unfold xi;rw [h1];rfl⟩,O6 hb h h2⟩
 ·unfold ab0 at hv;obtain ⟨m,hm,hq⟩:=sh.1 hv;simp only [OF,decide_eq_true_eq] at hq;rw [<-hq.2];exact (h.r9 m hm).rep hq.1
theorem aeS {F T:Nat}{bad:List Bool}{g:Gh}{c:aj}(hb:c.bY=bad)(h:nB F T bad g c)(hp:c.aV.length<=400)(hr: ∀m∈c.aV,m.R.Proof.length<2^32){m:al}(hm:abP m)(hs:mC c m=some true):LB bad g m:=by
 have hB: ∀{b:Int},(0<=b/\c.bY[b.toNat]? =some true)->M8 bad b:=λ⟨h0,h1⟩=>by rw [hb] at h1;exact ⟨h0,by unfold xi;rw [h1];rfl⟩
 have ax1: ∀{P:Prop} [Decidable P] {y:Bool},(bd (some (decide P)) λrA=>if rA then (some y:Option Bool) else some false)=some true->P/\y=true:=by intro P _ y h;by_cases hp:P<;>simp [hp] at h;exact ⟨hp,h⟩
 unfold mC at hs;by_cases k1:m.Kind=1
 ·rw [if_pos k1,mQ,O5 (q:=λr=>!Bt c r) (λr Cl=>by unfold nh;rw [RL hp hr (hm.Kw r Cl),au]) (by have:=hm.kQ;omega)] at hs;simp only [au] at hs;have PC:(m.fN.any λr=>!Bt c r)=false:=by
   by_cases hq:0<=m.eE/\c.bY[m.eE.toNat]? =some true
   ·simpa [hq] using hs
   ·rw [decide_eq_false hq] at hs;simp at hs
  refine ⟨λ_ r Cl=>XL hb h ?_,λk=>by omega,λk=>by omega,λk=>by omega,λk=>by omega⟩;have:=List.any_eq_false.1 PC r Cl;simpa using this
 rw [if_neg k1] at hs;by_cases k2:m.Kind=2
 ·rw [if_pos k2,mQ,au] at hs;exact ⟨λk=>by omega,λ_=> .inl (hB (of_decide_eq_true (BY hs))),λk=>by omega,λk=>by omega,λk=>by omega⟩
 rw [if_neg k2] at hs;by_cases k3:m.Kind=3
 ·rw [if_pos k3,mQ,AR hp hm.proof] at hs;simp only [au] at hs;by_cases hq:0<=m.eE/\c.bY[m.eE.toNat]? =some true
  ·rw [decide_eq_true hq,if_pos rfl,au] at hs;exact ⟨λk=>by omega,λk=>by omega,λ_=>⟨O6 hb h (BY hs),.inl (hB hq)⟩,λk=>by omega,λk=>by omega⟩
  ·rw [decide_eq_false hq] at hs;simp at hs
 rw [if_neg k3] at hs;by_cases k4:m.Kind=4
 ·rw [if_pos k4,mQ,AR hp hm.r] at hs;simp only [au] at hs;by_cases hq:0<=m.R.By/\c.bY[m.R.By.toNat]? =some true
  ·rw [decide_eq_true hq,if_pos rfl,au] at hs;exact ⟨λk=>by omega,λk=>by omega,λk=>by omega,λ_=>⟨.inl (hB hq),O6 hb h (BY hs)⟩,λk=>by omega⟩
  ·rw [decide_eq_false hq] at hs;simp at hs
 rw [if_neg k4] at hs;by_cases k5:m.Kind=5
 ·rw [if_pos k5,mQ,au] at hs;exact ⟨λk=>by omega,λk=>by omega,λk=>by omega,λk=>by omega,λ_=> .inl (hB (of_decide_eq_true (BY hs)))⟩
 ·rw [if_neg k5] at hs;simp at hs
end Dn.S
