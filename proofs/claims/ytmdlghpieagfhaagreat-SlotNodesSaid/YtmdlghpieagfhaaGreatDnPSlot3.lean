import Derived.Test.YtmdlghpieagfhaaGreatDnPSlot2
/-
  Nodes that enter, lead, are loaded again; SlotNodes. Conditions: none.
-/
set_option linter.unusedVariables false
set_option linter.unusedSimpArgs false
open Bool renaming false_eq_true→fj,not_true→IS
open List.Pairwise renaming nil→sh
open List renaming mem_iff_getElem→AI,mem_singleton→AT,length_take→IN
open Decidable renaming byContradiction→BY
open Go Dn
namespace Dn.S
structure ajc (s:ak) (i:Int) (P:Option (aD×List aw)) (R:Option (cC×List bF)) (k:Nat) (x:aD×List aw):Prop where
 prog:P=some x
 ref:R=some (yO x.1,x.2.map z6)
 inv:kV s i x.1 (k+1)
 out:x.2.length<=10
 small: ∀y∈x.2,M0 y
def xe (n:aD)(v:Int):aD×List aw:=if (n9 n.A v).2.2=true then (⟨(n9 n.A v).1,n.L,[],n.fh⟩,[afu (n9 n.A v).2.1]) else (n,[])
theorem aaA {s:ak}{i:Int}{n:aD}{k:Nat}(h:kV s i n k)(v:Int):ajc s i (pu s i n v) (u6 (vF s) i (yO n) v) k (xe n v):=by
 have f1:(yO n).A=sr n.A:=rfl;have Ow:=h.acc.MR.proof.len;refine ⟨?_,?_,?_,?_,?_⟩
 ·unfold pu xe;rw [afa,ar];cases hh:(n9 n.A v).2.2<;>rfl
 ·unfold u6 xe;rw [f1,UY,ar];cases hh:(n9 n.A v).2.2<;>rfl
 ·unfold xe;split
  ·exact ⟨R2 h.acc v,by rw [(Vc _ _).1];exact h.GL,by rw [(Vc _ _).2];exact h.yP,h.iv,h.xH,sh,λr hr=>(by cases hr),by simp⟩
  ·exact h.mono (by omega)
 ·unfold xe;split<;>simp
 ·unfold xe;split
  ·intro y hy;rw [AT.1 hy];refine ams ?_;unfold n9;split
   ·simp
   ·simp only;omega
  ·simp
def yQ (i v:Int)(x:List UInt8)(L:List ae):aw:=⟨1,i,v,x,L,zV,[],zR⟩
theorem afw {s:ak}{i:Int}{n:aD}{k:Nat}(h:kV s i n k)(hk:k<=1000)(want:List UInt8): ∃x,ajc s i (iA s i n want) (pz (vF s) i (yO n) want) k x:=by
 have hs:=h.sz;have hso:=(eZ s).1 hs;have hl:=h.len;have f1:(yO n).A.View=n.A.View:=rfl;have f2:(yO n).fh=n.fh:=rfl;have f3:(yO n).cy=n.cy:=rfl;have Ap: ∀(n':aD),n'=⟨n.A,n.L,n.cy,n.A.View⟩->kV s i n' (k+1):=λn' e=>by subst e;exact ⟨h.acc,h.GL,h.yP,h.iv,h.xH,h.inc,h.small,by simp only;omega⟩
 by_cases c1:nR s n.A.View=i/\ ¬n.A.View<=n.fh;rotate_left
 ·refine ⟨(n,[]),⟨?_,?_,h.mono (by omega),by simp,by simp⟩⟩
  ·unfold iA;rw [pM hs,ar,nK hs,ar];have hg:(if !decide (nR s n.A.View=i) then some true else some (decide (n.A.View<=n.fh)):Option Bool)=some true:=by
    by_cases c:nR s n.A.View=i
    ·have:n.A.View<=n.fh:=BY λh=>c1 ⟨c,h⟩;simp [c,this]
    ·simp [c]
   rw [hg,ar,if_pos rfl]
  ·unfold pz;rw [f1,f2,lk hs,ar];have hg:(if !decide (nR s n.A.View=i) then some true else some (decide (n.A.View<=n.fh)):Option Bool)=some true:=by
    by_cases c:nR s n.A.View=i
    ·have:n.A.View<=n.fh:=BY λh=>c1 ⟨c,h⟩;simp [c,this]
    ·simp [c]
   rw [hg,ar,if_pos rfl];rfl
 have hg:(if !decide (nR s n.A.View=i) then some true else some (decide (n.A.View<=n.fh)):Option Bool)=some false:=by simp [c1.1,c1.2]
 by_cases c2:(0:Int)<n.A.View;rotate_left
 ·refine ⟨(⟨n.A,n.L,n.cy,n.A.View⟩,[yQ i n.A.View want []]),⟨?_,?_,Ap _ rfl,by simp,λy hy=>by rw [AT.1 hy];exact ⟨by simp [yQ],by simp [yQ],by simp [yQ],by simp [yQ]⟩⟩⟩
  ·unfold iA;rw [pM hs,ar,nK hs,ar,hg,ar];simp only [fj,if_false,c2,ar];rfl
  ·unfold pz;rw [f1,f2,lk hs,ar,hg,ar];simp only [fj,if_false,c2,ar];rfl
 by_cases c3:(n.cy.length:Int)<2 *s.F+2 *s.T+1
 ·refine ⟨(n,[]),⟨?_,?_,h.mono (by omega),by simp,by simp⟩⟩
  ·unfold iA;rw [pM hs,ar,nK hs,ar,hg,ar];simp only [fj,if_false,c2,if_true,ar,c3,decide_true]
  ·unfold pz;rw [f1,f2,f3,lk hs,ar,hg,ar];simp only [fj,if_false,c2,if_true,ar,Et hs,c3];rfl
 have hlen:((n.cy.take (2 *s.F+2 *s.T+1).toNat).length:Int)=2 *s.F+2 *s.T+1:=by rw [IN];omega
 have ed:List.drop (Int.toNat 0) (List.take (Int.toNat (2 *s.F+2 *s.T+1)) n.cy)=n.cy.take (2 *s.F+2 *s.T+1).toNat:=by simp
 obtain ⟨r,b1,b2⟩:=UX hs _ hlen;obtain ⟨r',b3,b4⟩:=MC hs _ hlen;have:=b2.uniq (by omega) b4;subst this;have tu:(n.cy.take (2 *s.F+2 *s.T+1).toNat).length<=1000:=by rw [IN];omega
 refine ⟨(⟨n.A,n.L,n.cy,n.A.View⟩,[yQ i n.A.View (if r.2=true then r.1 else want) (n.cy.take (2 *s.F+2 *s.T+1).toNat)]),⟨?_,?_,Ap _ rfl,by simp,λy hy=>by rw [AT.1 hy];exact ⟨by simp only [yQ];omega,λx hx=>by have:=h.small x (List.mem_of_mem_take hx);omega,by simp [yQ],by simp [yQ]⟩⟩⟩
 ·unfold iA;rw [pM hs,ar,nK hs,ar,hg,ar];simp only [fj,if_false,c2,if_true,ar,c3,decide_false];rw [if_pos ⟨by decide,by omega,by omega⟩,ed,pJ (by omega),ar,b1,ar];cases r.2<;>rfl
 ·unfold pz;rw [f1,f2,f3,lk hs,ar,hg,ar];simp only [fj,if_false,c2,if_true,ar,Et hs,c3];rw [if_pos ⟨by decide,by omega,by omega⟩,ed,b3,ar];cases r.2<;>rfl
theorem vM {s:ak}(hs:cR s):kJ (BO s).1/\(BO s).1.S=s/\(BO s).2=0:=by unfold BO;rw [if_pos hs];exact ⟨⟨hs,by simp,λ_=>rfl,⟨λe he=>(by cases he),⟨λe he=>(by cases he),sh⟩⟩,⟨λe he=>(by cases he),⟨λe he=>(by cases he),sh⟩⟩,⟨λe he=>(by cases he),⟨λe he=>(by cases he),sh⟩⟩⟩,rfl,rfl⟩
def BP (s:ak)(n:aD):aD:=⟨Xb n.A,(BO s).1,[],n.A.View⟩
theorem Xi {s:ak}{i:Int}{n:aD}{k:Nat}(h:kV s i n k):nw s i n=some (BP s n)/\sR (vF s) i (yO n)=some (yO (BP s n))/\kV s i (BP s n) (k+1):=by
 have hs:=h.sz;have hb:=R0 h.acc;rw [h.GL,h.yP] at hb;have hl:=U4 h.acc.MR;refine ⟨?_,?_,?_⟩
 ·unfold nw;rw [W5 h.acc.MR,ar,hb,ar,IF,ar];rfl
 ·unfold sR;have f1:(yO n).A=sr n.A:=rfl;obtain ⟨r,e,hr⟩:=Xa s i (U3 n.A) (by omega);rw [<-h.GL,<-h.yP] at hr;have:=P9 h.acc hr;subst this;rw [f1,W6 h.acc.MR,ar,e,ar,Qb,ar];rfl
 ·obtain ⟨n1,n2,_⟩:=vM hs;exact ⟨Xc h.acc,h.GL,h.yP,n1,n2,sh,λr hr=>(by cases hr),by simp [BP]⟩
def z8 (s:ak)(i:Int):aD:=⟨⟨s,i,0,false,0,[],[],⟨[]⟩⟩,(BO s).1,[],-1⟩
theorem aaB {s:ak}{i:Int}(h:q8 s i):kV s i (z8 s i) 0:=by obtain ⟨n1,n2,_⟩:=vM h.1;exact ⟨MX h,rfl,rfl,n1,n2,sh,λr hr=>(by cases hr),by simp [z8]⟩
theorem Qe {s:ak}{i:Int}(h:q8 s i):mQ s i=some (z8 s i,0)/\rE (vF s) i=some (yO (z8 s i),0):=by
 have e0:GG s i=(⟨s,i,0,false,0,[],[],⟨[]⟩⟩,0):=if_pos h;obtain ⟨_,_,n3⟩:=vM h.1;refine ⟨?_,?_⟩
 ·unfold mQ;rw [HM,e0,ar];simp only [decide_true,IS,fj,if_false];rw [IF,ar,n3];rfl
 ·unfold rE;rw [CD,e0,ar];simp only [decide_true,IS,fj,if_false];rw [Qb,ar];rfl
def xf:aD:=⟨xd,⟨⟨0,0⟩,⟨[]⟩,⟨[]⟩,⟨[]⟩,false,[]⟩,[],0⟩
theorem afx {s:ak}{i:Int}(h: ¬q8 s i):mQ s i=some (xf,1)/\rE (vF s) i=some (yO xf,1):=by
 have e0:GG s i=(⟨⟨0,0⟩,0,0,false,0,[],[],⟨[]⟩⟩,1):=if_neg h;refine ⟨?_,?_⟩
 ·unfold mQ;rw [HM,e0,ar];rfl
 ·unfold rE;rw [CD,e0,ar];rfl
theorem Xj:pv (yO xf) (yO xf)=some true:=by
 unfold pv;have e1:qw (yO xf).A (yO xf).A=some true:=by show qw (sr xd) (sr xd)=some true;rw [My _ _ (by simp [sr,xd]) (by simp [sr,xd])];simp
 have e2:sM (yO xf).L (yO xf).L=some true:=IH ⟨by simp [xf],by simp [xf],by simp [xf]⟩;have e3:qx (yO xf).cy (yO xf).cy=some true:=z7 (by simp [yO,xf]) (λr hr=>(by cases hr));simp [e1,e2,e3]
theorem aaC (y:eh)(hl:y.M.dX.length<=30):bD (Loop (sG y) 0) λr=>(r= .inl ()/\ ∀x∈y.M.dX,x.Proof.length<=30)\/r= .inr false:=by
 refine bD.count (λk=>(k:Int)) y.M.dX.length (λk=> ∀j (hj:j<y.M.dX.length),j<k->y.M.dX[j].Proof.length<=30) rfl (λj _ h=>by omega) (λk hk hp=> ?_) (λhp=> ?_)
 ·unfold sG;rw [if_pos (by omega),bP hk];by_cases c:(30:Int)<(y.M.dX[k].Proof.length:Int)
  ·rw [if_pos c];exact .mk (.inr rfl)
  ·rw [if_neg c,wrap64 (by omega) (by omega)];refine .mk ⟨by omega,λj hj hjk=> ?_⟩;by_cases MD:j=k
   ·subst MD;omega
   ·exact hp j hj (by omega)
 ·unfold sG;rw [if_neg (by omega)];refine .mk (.inl ⟨rfl,λx hx=> ?_⟩);obtain ⟨k,hk,rfl⟩:=AI.1 hx;exact hp k hk hk
structure Qf (y:eh):Prop where
 value:y.M.Value.length<=200
 aDO:y.M.fM.Value.length<=200
 m:ajb y.M
theorem aaD (a1:List eh)(hl:a1.length<=80):bD (Loop (sH a1) 0) λr=>(r= .inl ()/\ ∀y∈a1,Qf y)\/r= .inr false:=by
 refine bD.count (λk=>(k:Int)) a1.length (λk=> ∀j (hj:j<a1.length),j<k->Qf a1[j]) rfl (λj _ h=>by omega) (λk hk hp=> ?_) (λhp=> ?_)
 ·unfold sH;rw [if_pos (by omega),bP hk];have Nl:Qf a1[k]-> ∀j (hj:j<a1.length),j<k+1->Qf a1[j]:=λh j hj hjk=>by
   by_cases MD:j=k
   ·subst MD;exact h
   ·exact hp j hj (by omega)
  generalize a1[k]=y at Nl;have hg:(if (200:Int)<(y.M.Value.length:Int) then some true else if (200:Int)<(y.M.fM.Value.length:Int) then some true else if (30:Int)<(y.M.Proof.length:Int) then some true else if (30:Int)<(y.M.dX.length:Int) then some true else if (200:Int)<(y.M.R.Value.length:Int) then some true else some (decide ((30:Int)<(y.M.R.Proof.length:Int))):Option Bool) =some (decide (¬(y.M.Value.length<=200/\y.M.fM.Value.length<=200/\y.M.Proof.length<=30/\y.M.dX.length<=30/\y.M.R.Value.length<=200/\y.M.R.Proof.length<=30))):=by
   repeat' split
   all_goals (congr 1;first|(symm;rw [decide_eq_true_iff];omega)|(rw [decide_eq_decide];omega))
  rw [hg,ar];by_cases c:y.M.Value.length<=200/\y.M.fM.Value.length<=200/\y.M.Proof.length<=30/\y.M.dX.length<=30/\y.M.R.Value.length<=200/\y.M.R.Proof.length<=30
  ·obtain ⟨c1,c2,c3,c4,c5,c6⟩:=c;rw [decide_eq_false (λh=>h ⟨c1,c2,c3,c4,c5,c6⟩),if_neg (by simp)];refine bD.bd (aaC y c4) ?_;rintro r (⟨rfl,hx⟩|rfl)
   ·rw [wrap64 (by omega) (by omega)];exact .mk ⟨by omega,Nl ⟨c1,c2,⟨c3,c4,λr hr=>by have:=hx r hr;omega,by omega⟩⟩⟩
   ·exact .mk (.inr rfl)
  ·rw [decide_eq_true c,if_pos rfl];exact .mk (.inr rfl)
 ·unfold sH;rw [if_neg (by omega)];refine .mk (.inl ⟨rfl,λx hx=> ?_⟩);obtain ⟨k,hk,rfl⟩:=AI.1 hx;exact hp k hk hk
structure amv (c:lh) (l:List eh):Prop where
 f:c.S.F<=2
 bad:c.fW.length<=30
 want:c.Want.length<=30
 len:l.length<=80
 aAT: ∀x∈c.Want,x.length<=200
 ay0: ∀y∈l,Qf y
theorem Xk (c:lh)(l:List eh):bD (ya c l) λb=>b=true->amv c l:=by
 unfold ya;have hg:(if (2:Int)<c.S.F then some true else if (30:Int)<(c.fW.length:Int) then some true else if (30:Int)<(c.Want.length:Int) then some true else some (decide ((80:Int)<(l.length:Int))):Option Bool)=some (decide (¬(c.S.F<=2/\c.fW.length<=30/\c.Want.length<=30/\l.length<=80))):=by
  repeat' split
  all_goals (congr 1;first|(symm;rw [decide_eq_true_iff];omega)|(rw [decide_eq_decide];omega))
 rw [hg,ar];by_cases c1:c.S.F<=2/\c.fW.length<=30/\c.Want.length<=30/\l.length<=80;rotate_left
 ·rw [decide_eq_true c1,if_pos rfl];exact .mk (by simp)
 ·obtain ⟨g1,g2,g3,g4⟩:=c1;rw [decide_eq_false (λh=>h ⟨g1,g2,g3,g4⟩),if_neg (by simp)];refine bD.bd (P:=λr=>(r= .inl ()/\ ∀x∈c.Want,x.length<=200)\/r= .inr false) ?_ ?_
  ·refine bD.count (λk=>(k:Int)) c.Want.length (λk=> ∀j (hj:j<c.Want.length),j<k->c.Want[j].length<=200) rfl (λj _ h=>by omega) (λk hk hp=> ?_) (λhp=> ?_)
   ·unfold wF;rw [if_pos (by omega),bP hk];by_cases c:(200:Int)<(c.Want[k].length:Int)
    ·rw [if_pos c];exact .mk (.inr rfl)
    ·rw [if_neg c,wrap64 (by omega) (by omega)];refine .mk ⟨by omega,λj hj hjk=> ?_⟩;by_cases MD:j=k
     ·subst MD;omega
     ·exact hp j hj (by omega)
   ·unfold wF;rw [if_neg (by omega)];refine .mk (.inl ⟨rfl,λx hx=> ?_⟩);obtain ⟨k,hk,rfl⟩:=AI.1 hx;exact hp k hk hk
  ·rintro r (⟨rfl,hw⟩|rfl)
   ·refine bD.bd (aaD l g4) ?_;rintro r (⟨rfl,ha⟩|rfl)
    ·exact .mk λ_=>⟨g1,g2,g3,g4,hw,ha⟩
    ·exact .mk (by simp)
   ·exact .mk (by simp)
end Dn.S
