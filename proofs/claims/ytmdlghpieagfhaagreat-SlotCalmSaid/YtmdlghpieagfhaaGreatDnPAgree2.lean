import Derived.Test.YtmdlghpieagfhaaGreatDnPAgree
import Derived.Test.YtmdlghpieagfhaaGreatDnPSlot12
/- Quorums out of tallies, proofs and reports. Conditions: none. -/
set_option linter.unusedVariables false
set_option linter.unusedSimpArgs false
open Bool renaming false_eq_true→cV,not_true→AT
open List.Pairwise renaming imp_of_mem→sh,filter→BY
open List renaming mem_filter→AI
open Go Dn
namespace Dn.S
def L7 (bad:List Bool)(b:Int):Prop:=0<=b/\wK bad b.toNat=true
def Real (bad:List Bool)(V:aa->Prop)(p:List aa):Prop:= ∀e∈p,L7 bad e.By\/V e
theorem V1 {bad:List Bool}{V:aa->Prop}{L:List aa}(hr:qm L)(hb: ∀e∈L,e.By.toNat<bad.length)(hs:Real bad V L)(v:Int)(x:List UInt8):Pg bad V (wJ L v x) v x:=by
 refine ⟨(L.filter (ve v x)).map λe=>e.By.toNat,?_,?_,by rw [List.length_map];exact Nat.le_refl _⟩
 ·unfold List.Nodup;rw [List.pairwise_map];refine sh (λ{a b} ha hb cJ=> ?_) (BY _ hr.inc);have h1:=(hr.all a (AI.1 ha).1).1;have cJ:a.By<b.By:=cJ;omega
 ·intro b TT;obtain ⟨e,he,rfl⟩:=List.mem_map.1 TT;obtain ⟨h1,h2⟩:=AI.1 he;simp only [ve,Bool.and_eq_true,decide_eq_true_eq] at h2;have h0:=(hr.all e h1).1;refine ⟨hb e h1,?_⟩;rcases hs e h1 with q|q
  ·exact .inl q.2
  ·refine .inr ?_;have:(⟨((e.By.toNat:Nat):Int),v,x⟩:aa)=e:=by obtain ⟨eb,ev,ex⟩:=e;obtain ⟨g1,g2⟩:=h2;simp only at g1 g2 h0⊢;subst g1;subst g2;congr 1;omega
   rw [this];exact q
theorem NB {s:ae}{bad:List Bool}{V:aa->Prop}{F T:Nat}(hF:s.F=F)(hT:s.T=T)(hn:(bad.length:Int)=kz s){p:List aa}(hp:uN s p)(hr:Real bad V p):Pg bad V (2 *F+T+1) (mB p).1 (mB p).2.1:=by
 have hl:=hp.len;have h0:0<p.length:=by omega
 have hc:wJ p (mB p).1 (mB p).2.1=p.length:=by
  unfold wJ;rw [List.filter_eq_self.2];intro e he;cases p with
  |nil=>cases he
  |cons a q=>have:=hp.one e he a (by simp);simp [ve,mB,this.1,this.2]
 refine (V1 hp.jA (λe he=> ?_) hr _ _).le (by omega);have h1:=hp.xD e he;have h2:=(hp.jA.all e he).1;omega
theorem NC {s:ae}{r:ab}(hl:r.Proof.length<2^32)(h:gG s r=some true):0<=r.By/\r.By<kz s/\(r.Has=true->r.View<r.fS)/\(r.Proof=[]\/(uN s r.Proof/\(mB r.Proof).1<r.fS)):=by
 unfold gG at h;rw [iK,au] at h;by_cases hs:cC s;rotate_left
 ·simp [hs] at h
 simp only [hs,decide_true,AT,cV,if_false,om hs,au] at h;by_cases c1:r.By<0
 ·simp [c1] at h
 by_cases c2:3 *s.F+2 *s.T+1<=r.By
 ·simp [c1,c2] at h
 by_cases c3:r.fS<1
 ·simp [c1,c2,c3] at h
 by_cases c4:(100000:Int)<r.fS
 ·simp [c1,c2,c3,c4] at h
 simp only [c1,c2,c3,c4,if_false,decide_false,au,cV] at h;refine ⟨by omega,by unfold kz;omega,?_,?_⟩
 ·intro hh;refine Decidable.byContradiction λhv=> ?_;have c5:r.fS<=r.View:=by omega
  by_cases c6:r.View<0<;>simp [hh,c5,c6] at h
 ·by_cases c5:r.Proof=[]
  ·exact .inl c5
  ·refine .inr ?_;have c6: ¬((r.Proof.length:Int)=0):=λe=>c5 (List.length_eq_zero_iff.1 (by omega));obtain ⟨b,eb,hb⟩:=oo s r.Proof hl;simp only [c6,if_false,eb,au,BT] at h;have key: ∀{w1 w2:Option Bool} {y:Bool},(bd w1 λa=>if a then some false else bd w2 λa=>if a then some false else some y)=some true->y=true:=by intro w1 w2 y h;rcases w1 with _|_|_<;>simp [Dn.bd] at h;rcases w2 with _|_|_<;>simp at h;exact h
   cases b with
   |true=>simp only [if_true,au] at h;exact ⟨hb.1 rfl,of_decide_eq_true (key h)⟩
   |false=>simp only [cV,if_false,au] at h;exact absurd (key h) (by simp)
theorem UO {s:ae}(hs:cC s){w:Int}{L:List ab}{x:List UInt8}(hp: ∀r∈L,r.Proof.length<2^32)(hl:L.length<2^32)(h:cW s w L x=some true):EK s w L/\ ∃res,F5 (s.F+s.T+1) L res/\(res.2=true->res.1=x):=by
 unfold cW at h;obtain ⟨b,eb,hb⟩:=A7 s w L hp hl;rw [eb,au] at h;cases b with
 |false=>simp at h
 |true=>have hR:=hb.1 rfl;refine ⟨hR,?_⟩;obtain ⟨res,er,po⟩:=A9 hs L hR.2.1;simp only [AT,cV,if_false,er,au] at h;refine ⟨res,po,λh2=> ?_⟩;simpa [h2] using h
theorem afr {s:ae}{bad:List Bool}{V:aa->Prop}{R:ab->Prop}{F T:Nat}(hF:s.F=F)(hT:s.T=T)(hn:(bad.length:Int)=kz s){w:Int}{L:List ab}{x:List UInt8}(hp: ∀r∈L,r.Proof.length<2^32)(hR:EK s w L)(hL: ∀r∈L,(L7 bad r.By\/R r)/\Real bad V r.Proof)(hb: ∃res,F5 (s.F+s.T+1) L res/\(res.2=true->res.1=x)):Ur F T bad V R w x:=by
 obtain ⟨h1,h2,h3⟩:=hR;have KX: ∀r∈L,gG s r=some true/\r.fS=w:=by intro r hr;obtain ⟨k,hk,rfl⟩:=List.mem_iff_getElem.1 hr;obtain ⟨_,g1,g2,_⟩:=h3 k hk;exact ⟨g1,g2⟩
 have Gb:oh (λr:ab=>r.By) L:=Ng λj hj=>by obtain ⟨_,_,_,g⟩:=h3 (j+1) hj;exact g (by omega)
 refine ⟨L,by omega,?_,λr hr=> ?_,by rw [<-hF,<-hT];exact hb⟩
 ·unfold List.Nodup;rw [List.pairwise_map];refine sh (λ{a b} ha hb cJ=> ?_) Gb;have g1:=(NC (hp a ha) (KX a ha).1).1;have cJ:a.By<b.By:=cJ;omega
 ·obtain ⟨g1,g2⟩:=KX r hr;obtain ⟨m1,m2,m3,m4⟩:=NC (hp r hr) g1;refine ⟨m1,by omega,g2,(hL r hr).1.imp (·.2) id,λhh=>by have:=m3 hh;omega,λdi=> ?_⟩;rcases m4 with m4|⟨m4,m5⟩
  ·exact absurd m4 di
  ·exact ⟨NB hF hT hn m4 (hL r hr).2,by omega⟩
end Dn.S
