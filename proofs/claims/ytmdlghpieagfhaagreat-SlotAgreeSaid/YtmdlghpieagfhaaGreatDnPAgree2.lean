import Derived.Test.YtmdlghpieagfhaaGreatDnPAgree
import Derived.Test.YtmdlghpieagfhaaGreatDnPSlot12
/-
  Quorums out of tallies, proofs and reports. Conditions: none.
-/
set_option linter.unusedVariables false
set_option linter.unusedSimpArgs false
open Bool renaming false_eq_true→cM,not_true→AT
open List.Pairwise renaming imp_of_mem→sh,filter→BY
open List renaming mem_filter→AI
open Go Dn
namespace Dn.S
def M8 (bad:List Bool)(b:Int):Prop:=0<=b/\xi bad b.toNat=true
def Real (bad:List Bool)(V:aa->Prop)(p:List aa):Prop:= ∀e∈p,M8 bad e.By\/V e
theorem Vv {bad:List Bool}{V:aa->Prop}{L:List aa}(hr:pZ L)(hb: ∀e∈L,e.By.toNat<bad.length)(hs:Real bad V L)(v:Int)(x:List UInt8):OO bad V (AG L v x) v x:=by
 refine ⟨(L.filter (xf v x)).map λe=>e.By.toNat,?_,?_,by rw [List.length_map];exact Nat.le_refl _⟩
 ·unfold List.Nodup;rw [List.pairwise_map];refine sh (λ{a b} ha hb cT=> ?_) (BY _ hr.inc);have h1:=(hr.all a (AI.1 ha).1).1;have cT:a.By<b.By:=cT;omega
 ·intro b Tf;obtain ⟨e,he,rfl⟩:=List.mem_map.1 Tf;obtain ⟨h1,h2⟩:=AI.1 he;simp only [xf,Bool.and_eq_true,decide_eq_true_eq] at h2;have h0:=(hr.all e h1).1;refine ⟨hb e h1,?_⟩;rcases hs e h1 with q|q
  ·exact .inl q.2
  ·refine .inr ?_;have:(⟨((e.By.toNat:Nat):Int),v,x⟩:aa)=e:=by obtain ⟨eb,ev,ex⟩:=e;obtain ⟨g1,g2⟩:=h2;simp only at g1 g2 h0⊢;subst g1;subst g2;congr 1;omega
   rw [this];exact q
theorem M9 {s:ae}{bad:List Bool}{V:aa->Prop}{F T:Nat}(hF:s.F=F)(hT:s.T=T)(hn:(bad.length:Int)=mS s){p:List aa}(hp:CP s p)(hr:Real bad V p):OO bad V (2 *F+T+1) (rn p).1 (rn p).2.1:=by
 have hl:=hp.len;have h0:0<p.length:=by omega
 have hc:AG p (rn p).1 (rn p).2.1=p.length:=by
  unfold AG;rw [List.filter_eq_self.2];intro e he;cases p with
  |nil=>cases he
  |cons a q=>have:=hp.one e he a (by simp);simp [xf,rn,this.1,this.2]
 refine (Vv hp.ll (λe he=> ?_) hr _ _).le (by omega);have h1:=hp.xh e he;have h2:=(hp.ll.all e he).1;omega
theorem Na {s:ae}{r:ab}(hl:r.Proof.length<2^32)(h:jZ s r=some true):0<=r.By/\r.By<mS s/\(r.Has=true->r.View<r.je)/\(r.Proof=[]\/(CP s r.Proof/\(rn r.Proof).1<r.je)):=by
 unfold jZ at h;rw [jO,au] at h;by_cases hs:cC s;rotate_left
 ·simp [hs] at h
 simp only [hs,decide_true,AT,cM,if_false,qa hs,au] at h;by_cases c1:r.By<0
 ·simp [c1] at h
 by_cases c2:3 *s.F+2 *s.T+1<=r.By
 ·simp [c1,c2] at h
 by_cases c3:r.je<1
 ·simp [c1,c2,c3] at h
 by_cases c4:(100000:Int)<r.je
 ·simp [c1,c2,c3,c4] at h
 simp only [c1,c2,c3,c4,if_false,decide_false,au,cM] at h;refine ⟨by omega,by unfold mS;omega,?_,?_⟩
 ·intro hh;refine Decidable.byContradiction λhv=> ?_;have c5:r.je<=r.View:=by omega
  by_cases c6:r.View<0<;>simp [hh,c5,c6] at h
 ·by_cases c5:r.Proof=[]
  ·exact .inl c5
  ·refine .inr ?_;have c6: ¬((r.Proof.length:Int)=0):=λe=>c5 (List.length_eq_zero_iff.1 (by omega));obtain ⟨b,eb,hb⟩:=rm s r.Proof hl;simp only [c6,if_false,eb,au,Fz] at h;have key: ∀{w1 w2:Option Bool} {y:Bool},(bd w1 λa=>if a then some false else bd w2 λa=>if a then some false else some y)=some true->y=true:=by intro w1 w2 y h;rcases w1 with _|_|_<;>simp [Dn.bd] at h;rcases w2 with _|_|_<;>simp at h;exact h
   cases b with
   |true=>simp only [if_true,au] at h;exact ⟨hb.1 rfl,of_decide_eq_true (key h)⟩
   |false=>simp only [cM,if_false,au] at h;exact absurd (key h) (by simp)
theorem Ue {s:ae}(hs:cC s){w:Int}{L:List ab}{x:List UInt8}(hp: ∀r∈L,r.Proof.length<2^32)(hl:L.length<2^32)(h:fH s w L x=some true):OM s w L/\ ∃res,Kj (s.F+s.T+1) L res/\(res.2=true->res.1=x):=by
 unfold fH at h;obtain ⟨b,eb,hb⟩:=Gx s w L hp hl;rw [eb,au] at h;cases b with
 |false=>simp at h
 |true=>have hR:=hb.1 rfl;refine ⟨hR,?_⟩;obtain ⟨res,er,o6⟩:=El hs L hR.2.1;simp only [AT,cM,if_false,er,au] at h;refine ⟨res,o6,λh2=> ?_⟩;simpa [h2] using h
theorem aeO {s:ae}{bad:List Bool}{V:aa->Prop}{R:ab->Prop}{F T:Nat}(hF:s.F=F)(hT:s.T=T)(hn:(bad.length:Int)=mS s){w:Int}{L:List ab}{x:List UInt8}(hp: ∀r∈L,r.Proof.length<2^32)(hR:OM s w L)(hL: ∀r∈L,(M8 bad r.By\/R r)/\Real bad V r.Proof)(hb: ∃res,Kj (s.F+s.T+1) L res/\(res.2=true->res.1=x)):TQ F T bad V R w x:=by
 obtain ⟨h1,h2,h3⟩:=hR;have abU: ∀r∈L,jZ s r=some true/\r.je=w:=by intro r hr;obtain ⟨k,hk,rfl⟩:=List.mem_iff_getElem.1 hr;obtain ⟨_,g1,g2,_⟩:=h3 k hk;exact ⟨g1,g2⟩
 have abV:o8 (λr:ab=>r.By) L:=MP λj hj=>by obtain ⟨_,_,_,g⟩:=h3 (j+1) hj;exact g (by omega)
 refine ⟨L,by omega,?_,λr hr=> ?_,by rw [<-hF,<-hT];exact hb⟩
 ·unfold List.Nodup;rw [List.pairwise_map];refine sh (λ{a b} ha hb cT=> ?_) abV;have g1:=(Na (hp a ha) (abU a ha).1).1;have cT:a.By<b.By:=cT;omega
 ·obtain ⟨g1,g2⟩:=abU r hr;obtain ⟨m1,m2,m3,m4⟩:=Na (hp r hr) g1;refine ⟨m1,by omega,g2,(hL r hr).1.imp (·.2) id,λhh=>by have:=m3 hh;omega,λdb=> ?_⟩;rcases m4 with m4|⟨m4,m5⟩
  ·exact absurd m4 db
  ·exact ⟨M9 hF hT hn m4 (hL r hr).2,by omega⟩
end Dn.S
