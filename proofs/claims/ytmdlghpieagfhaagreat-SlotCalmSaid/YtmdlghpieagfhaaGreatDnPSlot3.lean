import Derived.Test.YtmdlghpieagfhaaGreatDnPSlot2
/- Nodes that enter, lead, are loaded again; SlotNodes. Conditions: none. -/
set_option linter.unusedVariables false
set_option linter.unusedSimpArgs false
open List.Pairwise renaming nil→cV
open List renaming mem_iff_getElem→sh
open Go Dn
namespace Dn.S
structure auH (s:ae) (i:Int) (P:Option (ao×List ai)) (R:Option (yp×List fD)) (k:Nat) (x:ao×List ai):Prop where
 prog:P=some x
 ref:R=some (plN x.1,x.2.map plM)
 inv:dP s i x.1 (k+1)
 out:x.2.length<=10
 small: ∀y∈x.2,acA y
def dV (n:ao)(v:Int):ao×List ai:=if (iL n.A v).2.2=true then (⟨(iL n.A v).1,n.L,[],n.et⟩,[EP (iL n.A v).2.1]) else (n,[])
theorem R5 {s:ae}{i:Int}{n:ao}{k:Nat}(h:dP s i n k)(v:Int):pa s i n v=some (dV n v)/\dP s i (dV n v).1 (k+1):=by
 refine ⟨?_,?_⟩
 ·unfold pa dV;rw [ack,au];cases hh:(iL n.A v).2.2<;>rfl
 ·unfold dV;split
  ·exact ⟨Pq h.acc v,by rw [(R4 _ _).1];exact h.zM,by rw [(R4 _ _).2];exact h.sq,h.dU,h.qp,cV,λr hr=>(by cases hr),by simp⟩
  ·exact h.mono (by omega)
def mA (i v:Int)(x:List UInt8)(L:List ab):ai:=⟨1,i,v,x,L,zV,[],zR⟩
theorem uU {s:ae}(hs:cC s):lZ (zL s).1/\(zL s).1.S=s/\(zL s).2=0:=by unfold zL;rw [if_pos hs];exact ⟨⟨hs,by simp,λ_=>rfl,⟨λe he=>(by cases he),⟨λe he=>(by cases he),cV⟩⟩,⟨λe he=>(by cases he),⟨λe he=>(by cases he),cV⟩⟩,⟨λe he=>(by cases he),⟨λe he=>(by cases he),cV⟩⟩⟩,rfl,rfl⟩
def nd (s:ae)(n:ao):ao:=⟨UC n.A,(zL s).1,[],n.A.View⟩
theorem Pw {s:ae}{i:Int}{n:ao}{k:Nat}(h:dP s i n k):nt s i n=some (nd s n)/\dP s i (nd s n) (k+1):=by
 have hs:=h.sz;have hb:=Pp h.acc;rw [h.zM,h.sq] at hb;refine ⟨?_,?_⟩
 ·unfold nt;rw [Uz h.acc.RX,au,hb,au,G5,au];rfl
 ·obtain ⟨n1,n2,_⟩:=uU hs;exact ⟨UD h.acc,h.zM,h.sq,n1,n2,cV,λr hr=>(by cases hr),by simp [nd]⟩
def rc (s:ae)(i:Int):ao:=⟨⟨s,i,0,false,0,[],[],⟨[]⟩⟩,(zL s).1,[],-1⟩
theorem Ya {s:ae}{i:Int}(h:v8 s i):dP s i (rc s i) 0:=by obtain ⟨n1,n2,_⟩:=uU h.1;exact ⟨KP h,rfl,rfl,n1,n2,cV,λr hr=>(by cases hr),by simp [rc]⟩
theorem KU {s:ae}{i:Int}(h:v8 s i):uo s i=some (rc s i,0):=by have e0:ach s i=(⟨s,i,0,false,0,[],[],⟨[]⟩⟩,0):=if_pos h;obtain ⟨_,_,n3⟩:=uU h.1;unfold uo;rw [Nn,e0,au];simp only [decide_true,Bool.not_true,Bool.false_eq_true,if_false];rw [G5,au,n3];rfl
theorem Yb (y:dv)(hl:y.M.fC.length<=30):aK (Loop (rY y) 0) λr=>(r= .inl ()/\ ∀x∈y.M.fC,x.Proof.length<=30)\/r= .inr false:=by
 refine aK.count (λk=>(k:Int)) y.M.fC.length (λk=> ∀j (hj:j<y.M.fC.length),j<k->y.M.fC[j].Proof.length<=30) rfl (λj _ h=>by omega) (λk hk hp=> ?_) (λhp=> ?_)
 ·unfold rY;rw [if_pos (by omega),bB hk];by_cases c:(30:Int)<(y.M.fC[k].Proof.length:Int)
  ·rw [if_pos c];exact .mk (.inr rfl)
  ·rw [if_neg c,wrap64 (by omega) (by omega)];refine .mk ⟨by omega,λj hj hjk=> ?_⟩;by_cases UF:j=k
   ·subst UF;omega
   ·exact hp j hj (by omega)
 ·unfold rY;rw [if_neg (by omega)];refine .mk (.inl ⟨rfl,λx hx=> ?_⟩);obtain ⟨k,hk,rfl⟩:=sh.1 hx;exact hp k hk hk
structure ER (y:dv):Prop where
 value:y.M.Value.length<=200
 UG:y.M.bM.Value.length<=200
 m:qq y.M
theorem Yc (a1:List dv)(hl:a1.length<=80):aK (Loop (rZ a1) 0) λr=>(r= .inl ()/\ ∀y∈a1,ER y)\/r= .inr false:=by
 refine aK.count (λk=>(k:Int)) a1.length (λk=> ∀j (hj:j<a1.length),j<k->ER a1[j]) rfl (λj _ h=>by omega) (λk hk hp=> ?_) (λhp=> ?_)
 ·unfold rZ;rw [if_pos (by omega),bB hk];have IU:ER a1[k]-> ∀j (hj:j<a1.length),j<k+1->ER a1[j]:=λh j hj hjk=>by
   by_cases UF:j=k
   ·subst UF;exact h
   ·exact hp j hj (by omega)
  generalize a1[k]=y at IU;have hg:(if (200:Int)<(y.M.Value.length:Int) then some true else if (200:Int)<(y.M.bM.Value.length:Int) then some true else if (30:Int)<(y.M.Proof.length:Int) then some true else if (30:Int)<(y.M.fC.length:Int) then some true else if (200:Int)<(y.M.R.Value.length:Int) then some true else some (decide ((30:Int)<(y.M.R.Proof.length:Int))):Option Bool) =some (decide (¬(y.M.Value.length<=200/\y.M.bM.Value.length<=200/\y.M.Proof.length<=30/\y.M.fC.length<=30/\y.M.R.Value.length<=200/\y.M.R.Proof.length<=30))):=by
   repeat' split
   all_goals (congr 1;first|(symm;rw [decide_eq_true_iff];omega)|(rw [decide_eq_decide];omega))
  rw [hg,au];by_cases c:y.M.Value.length<=200/\y.M.bM.Value.length<=200/\y.M.Proof.length<=30/\y.M.fC.length<=30/\y.M.R.Value.length<=200/\y.M.R.Proof.length<=30
  ·obtain ⟨c1,c2,c3,c4,c5,c6⟩:=c;rw [decide_eq_false (λh=>h ⟨c1,c2,c3,c4,c5,c6⟩),if_neg (by simp)];refine aK.bd (Yb y c4) ?_;rintro r (⟨rfl,hx⟩|rfl)
   ·rw [wrap64 (by omega) (by omega)];exact .mk ⟨by omega,IU ⟨c1,c2,⟨c3,c4,λr hr=>by have:=hx r hr;omega,by omega⟩⟩⟩
   ·exact .mk (.inr rfl)
  ·rw [decide_eq_true c,if_pos rfl];exact .mk (.inr rfl)
 ·unfold rZ;rw [if_neg (by omega)];refine .mk (.inl ⟨rfl,λx hx=> ?_⟩);obtain ⟨k,hk,rfl⟩:=sh.1 hx;exact hp k hk hk
structure ajn (c:mb) (l:List dv):Prop where
 f:c.S.F<=2
 bad:c.bY.length<=30
 want:c.Want.length<=30
 len:l.length<=80
 auI: ∀x∈c.Want,x.length<=200
 anT: ∀y∈l,ER y
theorem UH (c:mb)(l:List dv):aK (xf c l) λb=>b=true->ajn c l:=by
 unfold xf;have hg:(if (2:Int)<c.S.F then some true else if (30:Int)<(c.bY.length:Int) then some true else if (30:Int)<(c.Want.length:Int) then some true else some (decide ((80:Int)<(l.length:Int))):Option Bool)=some (decide (¬(c.S.F<=2/\c.bY.length<=30/\c.Want.length<=30/\l.length<=80))):=by
  repeat' split
  all_goals (congr 1;first|(symm;rw [decide_eq_true_iff];omega)|(rw [decide_eq_decide];omega))
 rw [hg,au];by_cases c1:c.S.F<=2/\c.bY.length<=30/\c.Want.length<=30/\l.length<=80;rotate_left
 ·rw [decide_eq_true c1,if_pos rfl];exact .mk (by simp)
 ·obtain ⟨g1,g2,g3,g4⟩:=c1;rw [decide_eq_false (λh=>h ⟨g1,g2,g3,g4⟩),if_neg (by simp)];refine aK.bd (P:=λr=>(r= .inl ()/\ ∀x∈c.Want,x.length<=200)\/r= .inr false) ?_ ?_
  ·refine aK.count (λk=>(k:Int)) c.Want.length (λk=> ∀j (hj:j<c.Want.length),j<k->c.Want[j].length<=200) rfl (λj _ h=>by omega) (λk hk hp=> ?_) (λhp=> ?_)
   ·unfold vH;rw [if_pos (by omega),bB hk];by_cases c:(200:Int)<(c.Want[k].length:Int)
    ·rw [if_pos c];exact .mk (.inr rfl)
    ·rw [if_neg c,wrap64 (by omega) (by omega)];refine .mk ⟨by omega,λj hj hjk=> ?_⟩;by_cases UF:j=k
     ·subst UF;omega
     ·exact hp j hj (by omega)
   ·unfold vH;rw [if_neg (by omega)];refine .mk (.inl ⟨rfl,λx hx=> ?_⟩);obtain ⟨k,hk,rfl⟩:=sh.1 hx;exact hp k hk hk
  ·rintro r (⟨rfl,hw⟩|rfl)
   ·refine aK.bd (Yc l g4) ?_;rintro r (⟨rfl,ha⟩|rfl)
    ·exact .mk λ_=>⟨g1,g2,g3,g4,hw,ha⟩
    ·exact .mk (by simp)
   ·exact .mk (by simp)
end Dn.S
