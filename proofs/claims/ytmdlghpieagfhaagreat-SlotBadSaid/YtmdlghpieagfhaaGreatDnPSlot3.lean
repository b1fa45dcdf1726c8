import Derived.Test.YtmdlghpieagfhaaGreatDnPSlot2
/-
  Nodes that enter, lead, are loaded again; SlotNodes. Conditions: none.
-/
set_option linter.unusedVariables false
set_option linter.unusedSimpArgs false
open List.Pairwise renaming nil→eJ
open List renaming mem_iff_getElem→sh
open Bool renaming false_eq_true→AI,not_true→AT
open Go Dn
namespace Dn.S
structure ajx (s:af) (i:Int) (P:Option (aq×List al)) (R:Option (km×List eo)) (k:Nat) (x:aq×List al):Prop where
 prog:P=some x
 ref:R=some (TW x.1,x.2.map plM)
 inv:jq s i x.1 (k+1)
 out:x.2.length<=10
 small: ∀y∈x.2,Vw y
def tl (n:aq)(v:Int):aq×List al:=if (j9 n.A v).2.2=true then (⟨(j9 n.A v).1,n.L,[],n.jy⟩,[K6 (j9 n.A v).2.1]) else (n,[])
theorem Vx {s:af}{i:Int}{n:aq}{k:Nat}(h:jq s i n k)(v:Int):ajx s i (pk s i n v) (IJ (xI s) i (TW n) v) k (tl n v):=by
 have f1:(TW n).A=u5 n.A:=rfl;have MP:=h.acc.GC.proof.len;refine ⟨?_,?_,?_,?_,?_⟩
 ·unfold pk tl;rw [Ze,ap];cases hh:(j9 n.A v).2.2<;>rfl
 ·unfold IJ tl;rw [f1,Qk,ap];cases hh:(j9 n.A v).2.2<;>rfl
 ·unfold tl;split
  ·exact ⟨N7 h.acc v,by rw [(Qy _ _).1];exact h.EL,by rw [(Qy _ _).2];exact h.vV,h.jf,h.wG,eJ,λr hr=>(by cases hr),by simp⟩
  ·exact h.mono (by omega)
 ·unfold tl;split<;>simp
 ·unfold tl;split
  ·intro y hy;rw [List.mem_singleton.1 hy];refine afE ?_;unfold j9;split
   ·simp
   ·simp only;omega
  ·simp
def u9 (i v:Int)(x:List UInt8)(L:List ab):al:=⟨1,i,v,x,L,zV,[],zR⟩
theorem uP {s:af}(hs:cr s):pe (AD s).1/\(AD s).1.S=s/\(AD s).2=0:=by unfold AD;rw [if_pos hs];exact ⟨⟨hs,by simp,λ_=>rfl,⟨λe he=>(by cases he),⟨λe he=>(by cases he),eJ⟩⟩,⟨λe he=>(by cases he),⟨λe he=>(by cases he),eJ⟩⟩,⟨λe he=>(by cases he),⟨λe he=>(by cases he),eJ⟩⟩⟩,rfl,rfl⟩
def qB (s:af)(n:aq):aq:=⟨SD n.A,(AD s).1,[],n.A.View⟩
theorem SI {s:af}{i:Int}{n:aq}{k:Nat}(h:jq s i n k):nz s i n=some (qB s n)/\Gi (xI s) i (TW n)=some (TW (qB s n))/\jq s i (qB s n) (k+1):=by
 have hs:=h.sz;have hb:=N6 h.acc;rw [h.EL,h.vV] at hb;have hl:=Qq h.acc.GC;refine ⟨?_,?_,?_⟩
 ·unfold nz;rw [Sx h.acc.GC,ap,hb,ap,GF,ap];rfl
 ·unfold Gi;have f1:(TW n).A=u5 n.A:=rfl;obtain ⟨r,e,hr⟩:=SC s i (Qp n.A) (by omega);rw [<-h.EL,<-h.vV] at hr;have:=Mu h.acc hr;subst this;rw [f1,Sy h.acc.GC,ap,e,ap,Mw,ap];rfl
 ·obtain ⟨n1,n2,_⟩:=uP hs;exact ⟨SE h.acc,h.EL,h.vV,n1,n2,eJ,λr hr=>(by cases hr),by simp [qB]⟩
def yL (s:af)(i:Int):aq:=⟨⟨s,i,0,false,0,[],[],⟨[]⟩⟩,(AD s).1,[],-1⟩
theorem Vy {s:af}{i:Int}(h:sr s i):jq s i (yL s i) 0:=by obtain ⟨n1,n2,_⟩:=uP h.1;exact ⟨Ka h,rfl,rfl,n1,n2,eJ,λr hr=>(by cases hr),by simp [yL]⟩
theorem Vz {s:af}{i:Int}(h:sr s i):uc s i=some (yL s i,0)/\LP (xI s) i=some (TW (yL s i),0):=by
 have e0:FH s i=(⟨s,i,0,false,0,[],[],⟨[]⟩⟩,0):=if_pos h;obtain ⟨_,_,n3⟩:=uP h.1;refine ⟨?_,?_⟩
 ·unfold uc;rw [Mh,e0,ap];simp only [decide_true,AT,AI,if_false];rw [GF,ap,n3];rfl
 ·unfold LP;rw [FI,e0,ap];simp only [decide_true,AT,AI,if_false];rw [Mw,ap];rfl
theorem VA (y:dy)(hl:y.M.dP.length<=30):aL (Loop (rV y) 0) λr=>(r= .inl ()/\ ∀x∈y.M.dP,x.Proof.length<=30)\/r= .inr false:=by
 refine aL.count (λk=>(k:Int)) y.M.dP.length (λk=> ∀j (hj:j<y.M.dP.length),j<k->y.M.dP[j].Proof.length<=30) rfl (λj _ h=>by omega) (λk hk hp=> ?_) (λhp=> ?_)
 ·unfold rV;rw [if_pos (by omega),bh hk];by_cases c:(30:Int)<(y.M.dP[k].Proof.length:Int)
  ·rw [if_pos c];exact .mk (.inr rfl)
  ·rw [if_neg c,wrap64 (by omega) (by omega)];refine .mk ⟨by omega,λj hj VY=> ?_⟩;by_cases JT:j=k
   ·subst JT;omega
   ·exact hp j hj (by omega)
 ·unfold rV;rw [if_neg (by omega)];refine .mk (.inl ⟨rfl,λx hx=> ?_⟩);obtain ⟨k,hk,rfl⟩:=sh.1 hx;exact hp k hk hk
structure My (y:dy):Prop where
 value:y.M.Value.length<=200
 at0:y.M.cf.Value.length<=200
 m:AF y.M
theorem VB (a1:List dy)(hl:a1.length<=80):aL (Loop (rW a1) 0) λr=>(r= .inl ()/\ ∀y∈a1,My y)\/r= .inr false:=by
 refine aL.count (λk=>(k:Int)) a1.length (λk=> ∀j (hj:j<a1.length),j<k->My a1[j]) rfl (λj _ h=>by omega) (λk hk hp=> ?_) (λhp=> ?_)
 ·unfold rW;rw [if_pos (by omega),bh hk];have Ii:My a1[k]-> ∀j (hj:j<a1.length),j<k+1->My a1[j]:=λh j hj VY=>by
   by_cases JT:j=k
   ·subst JT;exact h
   ·exact hp j hj (by omega)
  generalize a1[k]=y at Ii;have hg:(if (200:Int)<(y.M.Value.length:Int) then some true else if (200:Int)<(y.M.cf.Value.length:Int) then some true else if (30:Int)<(y.M.Proof.length:Int) then some true else if (30:Int)<(y.M.dP.length:Int) then some true else if (200:Int)<(y.M.R.Value.length:Int) then some true else some (decide ((30:Int)<(y.M.R.Proof.length:Int))):Option Bool) =some (decide (¬(y.M.Value.length<=200/\y.M.cf.Value.length<=200/\y.M.Proof.length<=30/\y.M.dP.length<=30/\y.M.R.Value.length<=200/\y.M.R.Proof.length<=30))):=by
   repeat' split
   all_goals (congr 1;first|(symm;rw [decide_eq_true_iff];omega)|(rw [decide_eq_decide];omega))
  rw [hg,ap];by_cases c:y.M.Value.length<=200/\y.M.cf.Value.length<=200/\y.M.Proof.length<=30/\y.M.dP.length<=30/\y.M.R.Value.length<=200/\y.M.R.Proof.length<=30
  ·obtain ⟨c1,c2,c3,c4,c5,c6⟩:=c;rw [decide_eq_false (λh=>h ⟨c1,c2,c3,c4,c5,c6⟩),if_neg (by simp)];refine aL.bd (VA y c4) ?_;rintro r (⟨rfl,hx⟩|rfl)
   ·rw [wrap64 (by omega) (by omega)];exact .mk ⟨by omega,Ii ⟨c1,c2,⟨c3,c4,λr hr=>by have:=hx r hr;omega,by omega⟩⟩⟩
   ·exact .mk (.inr rfl)
  ·rw [decide_eq_true c,if_pos rfl];exact .mk (.inr rfl)
 ·unfold rW;rw [if_neg (by omega)];refine .mk (.inl ⟨rfl,λx hx=> ?_⟩);obtain ⟨k,hk,rfl⟩:=sh.1 hx;exact hp k hk hk
structure Zx (c:jg) (l:List dy):Prop where
 f:c.S.F<=2
 bad:c.cQ.length<=30
 want:c.Want.length<=30
 len:l.length<=80
 aqo: ∀x∈c.Want,x.length<=200
 aos: ∀y∈l,My y
theorem SJ (c:jg)(l:List dy):aL (xb c l) λb=>b=true->Zx c l:=by
 unfold xb;have hg:(if (2:Int)<c.S.F then some true else if (30:Int)<(c.cQ.length:Int) then some true else if (30:Int)<(c.Want.length:Int) then some true else some (decide ((80:Int)<(l.length:Int))):Option Bool)=some (decide (¬(c.S.F<=2/\c.cQ.length<=30/\c.Want.length<=30/\l.length<=80))):=by
  repeat' split
  all_goals (congr 1;first|(symm;rw [decide_eq_true_iff];omega)|(rw [decide_eq_decide];omega))
 rw [hg,ap];by_cases c1:c.S.F<=2/\c.cQ.length<=30/\c.Want.length<=30/\l.length<=80;rotate_left
 ·rw [decide_eq_true c1,if_pos rfl];exact .mk (by simp)
 ·obtain ⟨g1,g2,g3,g4⟩:=c1;rw [decide_eq_false (λh=>h ⟨g1,g2,g3,g4⟩),if_neg (by simp)];refine aL.bd (P:=λr=>(r= .inl ()/\ ∀x∈c.Want,x.length<=200)\/r= .inr false) ?_ ?_
  ·refine aL.count (λk=>(k:Int)) c.Want.length (λk=> ∀j (hj:j<c.Want.length),j<k->c.Want[j].length<=200) rfl (λj _ h=>by omega) (λk hk hp=> ?_) (λhp=> ?_)
   ·unfold vB;rw [if_pos (by omega),bh hk];by_cases c:(200:Int)<(c.Want[k].length:Int)
    ·rw [if_pos c];exact .mk (.inr rfl)
    ·rw [if_neg c,wrap64 (by omega) (by omega)];refine .mk ⟨by omega,λj hj VY=> ?_⟩;by_cases JT:j=k
     ·subst JT;omega
     ·exact hp j hj (by omega)
   ·unfold vB;rw [if_neg (by omega)];refine .mk (.inl ⟨rfl,λx hx=> ?_⟩);obtain ⟨k,hk,rfl⟩:=sh.1 hx;exact hp k hk hk
  ·rintro r (⟨rfl,hw⟩|rfl)
   ·refine aL.bd (VB l g4) ?_;rintro r (⟨rfl,ha⟩|rfl)
    ·exact .mk λ_=>⟨g1,g2,g3,g4,hw,ha⟩
    ·exact .mk (by simp)
   ·exact .mk (by simp)
end Dn.S
