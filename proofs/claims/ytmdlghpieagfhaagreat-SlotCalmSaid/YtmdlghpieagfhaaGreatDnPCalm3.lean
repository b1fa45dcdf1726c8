import Derived.Test.YtmdlghpieagfhaaGreatDnPCalm2
/- Single acts of good nodes in calm: just what they come. Conditions: none. -/
set_option linter.unusedVariables false
set_option linter.unusedSimpArgs false
open Bool renaming false_eq_true→cV
open List renaming getElem_mem→sh
open Go Dn
namespace Dn.S
theorem Sg {a:af}{v:Int}{x:List UInt8}{gJ:List ab}(hf:Np a v x)(hv:v≠0)(h:cW a.S v gJ x=some true):dO a v x gJ=some (bU a v x true):=by
 obtain ⟨h1,h2,h3⟩:=hf;unfold dO;have hg:(if !decide (v=a.View) then some true else if a.Has then if a.At=v then some true else some (decide ((6000:Int)<(x.length:Int))) else some (decide ((6000:Int)<(x.length:Int))):Option Bool)=some false:=by
  have h4: ¬(6000:Int)<(x.length:Int):=by omega
  cases hh:a.Has with
  |true=>have: ¬a.At=v:=λe=>h2 ⟨hh,e⟩;rw [if_neg (by simp [h1]),if_pos rfl,if_neg this,decide_eq_false h4]
  |false=>rw [if_neg (by simp [h1]),if_neg (by simp),decide_eq_false h4]
 rw [hg,au,if_neg (by simp),if_neg hv,au,if_neg (by simp),h,au,if_neg (by simp),au];rfl
theorem acK {s:ae}{i:Int}{n:ao}{k:Nat}(h:dP s i n k)(hk:k<=1000000){r:ab}(hr:r.Proof.length<=100): ∃ok,ke n s i r=some ((),⟨n.A,n.L,wL n r ok,n.et⟩)/\(ok=true↔n.A.View=r.fS/\dG s r.fS=i/\gG s r=some true):=by
 have hs:=h.sz;have hl:=h.len;obtain ⟨b,eb,_⟩:=KF s r (by omega);have hle:=A6 (key:=rk) n.dq r.By;refine ⟨decide (n.A.View=r.fS)&&decide (dG s r.fS=i)&&b,?_,?_⟩
 ·unfold ke wL;rw [R3 h.inc (by omega),au,dI hs];simp only [au,eb];have hg:(if !(nR rk n.dq r.By) then if n.A.View=r.fS then if dG s r.fS=i then some b else some false else some false else some false:Option Bool)=some (decide ((decide (n.A.View=r.fS)&&decide (dG s r.fS=i)&&b)=true/\nR rk n.dq r.By=false)):=by cases nR rk n.dq r.By<;>by_cases c1:n.A.View=r.fS<;>by_cases c2:dG s r.fS=i<;>cases b<;>simp [c1,c2]
  rw [hg,au];by_cases c:(decide (n.A.View=r.fS)&&decide (dG s r.fS=i)&&b)=true/\nR rk n.dq r.By=false
  ·rw [decide_eq_true c,if_pos rfl,if_pos c,gO (by omega),au,Dg (key:=rk) (by omega)];rfl
  ·rw [decide_eq_false c,if_neg (by simp),if_neg c];rfl
 ·rw [eb];cases b<;>simp
structure CF (s:ae) (r:ab):Prop where
 by0:0<=r.By
 by1:r.By<kz s
 asG:1<=r.fS
 forM:r.fS<=100000
 Ba:r.Has=false->r.View=0/\r.Value=[]
 has:r.Has=true->0<=r.View/\r.View<r.fS/\r.Value.length<=6000
 proof:r.Proof=[]\/(uN s r.Proof/\(mB r.Proof).1<r.fS)
 small:r.Proof.length<=100
theorem CF.may {s:ae}(hs:cC s){r:ab}(h:CF s r):gG s r=some true:=by
 have h1:=h.by0;have h2:=h.by1;unfold kz at h2;have h3:=h.asG;have h4:=h.forM;unfold gG;rw [iK,au,decide_eq_true hs,if_neg (by simp),if_neg (by omega),om hs,au,if_neg (by omega),if_neg (by omega),decide_eq_false (by omega),au,if_neg (by simp)];have e1:(if !r.Has then if !decide (r.View=0) then some true else some (!decide (r.Value=([]:List UInt8))) else some false:Option Bool)=some false:=by
  cases hh:r.Has with
  |true=>rfl
  |false=>obtain ⟨q1,q2⟩:=h.Ba hh;simp [q1,q2]
 rw [e1,au,if_neg (by simp)];have e2:(if r.Has then if r.View<0 then some true else if r.fS<=r.View then some true else some (decide ((6000:Int)<(r.Value.length:Int))) else some false:Option Bool)=some false:=by
  cases hh:r.Has with
  |false=>rfl
  |true=>obtain ⟨q1,q2,q3⟩:=h.has hh;rw [if_pos rfl,if_neg (by omega),if_neg (by omega),decide_eq_false (by omega)]
 rw [e2,au,if_neg (by simp)];rcases h.proof with hp|⟨hp,hq⟩
 ·simp [hp]
 ·have hl: ¬((r.Proof.length:Int)=0):=by have:=hp.len;have:=(b7 s).1 hs;omega
  obtain ⟨b,eb,hb⟩:=oo s r.Proof (by have:=h.small;omega);rw [hb.2 hp] at eb;simp only [hl,if_false,eb,au,if_true,BT];simp [hq]
theorem Yn {L:List ab}(h: ∀r∈L,∀e∈r.Proof,e.Value.length<=6000): ∀b:Int×List UInt8,(0<=b.1->b.2.length<=6000)->0<=(L.foldl nI b).1->(L.foldl nI b).2.length<=6000:=by
 induction L with
 |nil=>intro b hb;exact hb
 |cons r L ih=>
  intro b hb;refine ih (λr' hr'=>h r' (by simp [hr'])) _ ?_;unfold nI;split
  ·rename_i hc;intro _;have hr:=h r (by simp);cases hp:r.Proof with
   |nil=>rw [hp] at hc;simp [mB] at hc
   |cons e p=>rw [hp] at hr;exact hr e (by simp)
  ·exact hb
theorem Yo {s:ae}(hs:cC s){L:List ab}(hL: ∀r∈L,CF s r){r:List UInt8×Bool}(h:F5 (s.F+s.T+1) L r)(h2:r.2=true):r.1.length<=6000:=by
 have Nj:=(b7 s).1 hs;rcases h with ⟨x,h1,rfl⟩|⟨h1,rfl⟩
 ·have:0<tz (pg L).1 L x:=by omega
  unfold tz at this;obtain ⟨r,hr⟩:=List.length_pos_iff_exists_mem.1 this;obtain ⟨hrL,hh⟩:=List.mem_filter.1 hr;simp only [A8,Bool.and_eq_true,decide_eq_true_eq] at hh;have:=(hL r hrL).has hh.1;show x.length<=6000;rw [<-hh.2.2];exact this.2.2
 ·simp only [decide_eq_true_eq] at h2;refine Yn (λr hr e he=> ?_) (-1,[]) (λh=>by simp at h) h2;rcases (hL r hr).proof with hp|⟨hp,_⟩
  ·rw [hp] at he;cases he
  ·exact (hp.jA.1 e he).2.2.2
theorem acL {s:ae}{i:Int}{n:ao}{k:Nat}(h:dP s i n k)(want:List UInt8)(hc:dG s n.A.View≠i\/n.A.View<=n.et\/(0<n.A.View/\(n.dq.length:Int)<2 *s.F+2 *s.T+1)):cF s i n want=some (n,[]):=by
 have hs:=h.sz;unfold cF;rw [fX hs,au,dI hs,au];by_cases c1:dG s n.A.View=i/\ ¬n.A.View<=n.et;rotate_left
 ·have hg:(if !decide (dG s n.A.View=i) then some true else some (decide (n.A.View<=n.et)):Option Bool)=some true:=by
   by_cases c:dG s n.A.View=i
   ·have:n.A.View<=n.et:=Decidable.byContradiction λh=>c1 ⟨c,h⟩;simp [c,this]
   ·simp [c]
  rw [hg,au,if_pos rfl]
 ·have hgd:(if !decide (dG s n.A.View=i) then some true else some (decide (n.A.View<=n.et)):Option Bool)=some false:=by simp [c1.1,c1.2]
  obtain ⟨q1,q2⟩:0<n.A.View/\(n.dq.length:Int)<2 *s.F+2 *s.T+1:=by
   rcases hc with hc|hc|hc
   ·exact absurd c1.1 hc
   ·exact absurd hc c1.2
   ·exact hc
  rw [hgd,au];simp only [cV,if_false,q1,if_true,au,q2,decide_true]
theorem Yp {s:ae}{v:Int}{L:List ab}{x:List UInt8}{r:List UInt8×Bool}(hp: ∀r∈L,r.Proof.length<2^32)(hl:L.length<2^32)(hR:EK s v L)(hb:li s L=some r)(hx:r.2=true->r.1=x):cW s v L x=some true:=by
 unfold cW;obtain ⟨b,eb,Fg⟩:=A7 s v L hp hl;rw [Fg.2 hR] at eb;rw [eb,au,if_neg (by simp),hb,au];cases h2:r.2 with
 |false=>simp
 |true=>simp [hx h2]
theorem Yq {s:ae}{i:Int}{n:ao}{k:Nat}(h:dP s i n k)(hk:k<=1000000){want:List UInt8}(hw:want.length<=6000)(h1:dG s n.A.View=i)(h2:n.et<n.A.View)(h3:0<n.A.View)(h4:2 *s.F+2 *s.T+1<=(n.dq.length:Int))(hG: ∀r∈n.dq,CF s r/\r.fS=n.A.View): ∃x gJ,cF s i n want=some (⟨n.A,n.L,n.dq,n.A.View⟩,[mA i n.A.View x gJ])/\cW s n.A.View gJ x=some true/\x.length<=6000:=by
 have hs:=h.sz;have Nj:=(b7 s).1 hs;have hl:=h.len;have hlen:((n.dq.take (2 *s.F+2 *s.T+1).toNat).length:Int)=2 *s.F+2 *s.T+1:=by rw [List.length_take];omega
 have ed:List.drop (Int.toNat 0) (List.take (Int.toNat (2 *s.F+2 *s.T+1)) n.dq)=n.dq.take (2 *s.F+2 *s.T+1).toNat:=by simp
 obtain ⟨r,b1,b2⟩:=A9 hs _ hlen;have kG: ∀q∈n.dq.take (2 *s.F+2 *s.T+1).toNat,CF s q/\q.fS=n.A.View:=λq hq=>hG q (List.mem_of_mem_take hq);have hR:EK s n.A.View (n.dq.take (2 *s.F+2 *s.T+1).toNat):=by refine ⟨hs,hlen,λq hq=>⟨hq,(kG _ (sh hq)).1.may hs,(kG _ (sh hq)).2,λh0=> ?_⟩⟩;have:=List.pairwise_iff_getElem.1 (h.inc.sublist (List.take_sublist (2 *s.F+2 *s.T+1).toNat n.dq)) (q-1) q (by omega) hq (by omega);exact this
 refine ⟨if r.2=true then r.1 else want,n.dq.take (2 *s.F+2 *s.T+1).toNat,?_,?_,?_⟩
 ·have hgd:(if !decide (dG s n.A.View=i) then some true else some (decide (n.A.View<=n.et)):Option Bool)=some false:=by rw [decide_eq_true h1,decide_eq_false (by omega)];rfl
  unfold cF;rw [fX hs,au,dI hs,au,hgd,au];have c3: ¬(n.dq.length:Int)<2 *s.F+2 *s.T+1:=by omega
  simp only [cV,if_false,h3,if_true,au,c3,decide_false];rw [if_pos ⟨by decide,by omega,by omega⟩,ed,gO (by omega),au,b1,au];cases r.2<;>rfl
 ·exact Yp (λq hq=>by have:=(kG q hq).1.small;omega) (by omega) hR b1 λhr=>by rw [if_pos hr]
 ·by_cases hr:r.2=true
  ·rw [if_pos hr];exact Yo hs (λq hq=>(kG q hq).1) b2 hr
  ·rw [if_neg hr];exact hw
end Dn.S
