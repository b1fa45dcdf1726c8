import Derived.Test.YtmdlghpieagfhaaGreatDnPSlot2
/-
  Nodes that enter, lead, are loaded again; SlotNodes. Conditions: none.
-/
set_option linter.unusedVariables false
set_option linter.unusedSimpArgs false
open List.Pairwise renaming nil→cM
open List renaming mem_iff_getElem→sh
open Go Dn
namespace Dn.S
structure atT (s:ae) (i:Int) (P:Option (ar×List al)) (R:Option (xX×List fA)) (k:Nat) (x:ar×List al):Prop where
 prog:P=some x
 ref:R=some (plN x.1,x.2.map plM)
 inv:gE s i x.1 (k+1)
 out:x.2.length<=10
 small: ∀y∈x.2,abP y
def te (n:ar)(v:Int):ar×List al:=if (lM n.A v).2.2=true then (⟨(lM n.A v).1,n.L,[],n.ir⟩,[Lz (lM n.A v).2.1]) else (n,[])
theorem RB {s:ae}{i:Int}{n:ar}{k:Nat}(h:gE s i n k)(v:Int):oS s i n v=some (te n v)/\gE s i (te n v).1 (k+1):=by
 refine ⟨?_,?_⟩
 ·unfold oS te;rw [abB,au];cases hh:(lM n.A v).2.2<;>rfl
 ·unfold te;split
  ·exact ⟨OW h.acc v,by rw [(Rz _ _).1];exact h.CX,by rw [(Rz _ _).2];exact h.uH,h.eP,h.qS,cM,λr hr=>(by cases hr),by simp⟩
  ·exact h.mono (by omega)
def sD (i v:Int)(x:List UInt8)(L:List ab):al:=⟨1,i,v,x,L,zV,[],zR⟩
theorem uI {s:ae}(hs:cC s):lN (zh s).1/\(zh s).1.S=s/\(zh s).2=0:=by unfold zh;rw [if_pos hs];exact ⟨⟨hs,by simp,λ_=>rfl,⟨λe he=>(by cases he),⟨λe he=>(by cases he),cM⟩⟩,⟨λe he=>(by cases he),⟨λe he=>(by cases he),cM⟩⟩,⟨λe he=>(by cases he),⟨λe he=>(by cases he),cM⟩⟩⟩,rfl,rfl⟩
def kD (s:ae)(n:ar):ar:=⟨T3 n.A,(zh s).1,[],n.A.View⟩
theorem O0 {s:ae}{i:Int}{n:ar}{k:Nat}(h:gE s i n k):ng s i n=some (kD s n)/\gE s i (kD s n) (k+1):=by
 have hs:=h.sz;have hb:=OV h.acc;rw [h.CX,h.uH] at hb;refine ⟨?_,?_⟩
 ·unfold ng;rw [TX h.acc.Vp,au,hb,au,GC,au];rfl
 ·obtain ⟨n1,n2,_⟩:=uI hs;exact ⟨T4 h.acc,h.CX,h.uH,n1,n2,cM,λr hr=>(by cases hr),by simp [kD]⟩
def sE (s:ae)(i:Int):ar:=⟨⟨s,i,0,false,0,[],[],⟨[]⟩⟩,(zh s).1,[],-1⟩
theorem Xz {s:ae}{i:Int}(h:vN s i):gE s i (sE s i) 0:=by obtain ⟨n1,n2,_⟩:=uI h.1;exact ⟨Kt h,rfl,rfl,n1,n2,cM,λr hr=>(by cases hr),by simp [sE]⟩
theorem Ky {s:ae}{i:Int}(h:vN s i):ud s i=some (sE s i,0):=by have e0:aby s i=(⟨s,i,0,false,0,[],[],⟨[]⟩⟩,0):=if_pos h;obtain ⟨_,_,n3⟩:=uI h.1;unfold ud;rw [MW,e0,au];simp only [decide_true,Bool.not_true,Bool.false_eq_true,if_false];rw [GC,au,n3];rfl
theorem XA (y:dz)(hl:y.M.fN.length<=30):aL (Loop (rM y) 0) λr=>(r= .inl ()/\ ∀x∈y.M.fN,x.Proof.length<=30)\/r= .inr false:=by
 refine aL.count (λk=>(k:Int)) y.M.fN.length (λk=> ∀j (hj:j<y.M.fN.length),j<k->y.M.fN[j].Proof.length<=30) rfl (λj _ h=>by omega) (λk hk hp=> ?_) (λhp=> ?_)
 ·unfold rM;rw [if_pos (by omega),bA hk];by_cases c:(30:Int)<(y.M.fN[k].Proof.length:Int)
  ·rw [if_pos c];exact .mk (.inr rfl)
  ·rw [if_neg c,wrap64 (by omega) (by omega)];refine .mk ⟨by omega,λj hj hjk=> ?_⟩;by_cases T5:j=k
   ·subst T5;omega
   ·exact hp j hj (by omega)
 ·unfold rM;rw [if_neg (by omega)];refine .mk (.inl ⟨rfl,λx hx=> ?_⟩);obtain ⟨k,hk,rfl⟩:=sh.1 hx;exact hp k hk hk
structure Kz (y:dz):Prop where
 value:y.M.Value.length<=200
 aeF:y.M.dv.Value.length<=200
 m:xl y.M
theorem XB (a1:List dz)(hl:a1.length<=80):aL (Loop (rN a1) 0) λr=>(r= .inl ()/\ ∀y∈a1,Kz y)\/r= .inr false:=by
 refine aL.count (λk=>(k:Int)) a1.length (λk=> ∀j (hj:j<a1.length),j<k->Kz a1[j]) rfl (λj _ h=>by omega) (λk hk hp=> ?_) (λhp=> ?_)
 ·unfold rN;rw [if_pos (by omega),bA hk];have Is:Kz a1[k]-> ∀j (hj:j<a1.length),j<k+1->Kz a1[j]:=λh j hj hjk=>by
   by_cases T5:j=k
   ·subst T5;exact h
   ·exact hp j hj (by omega)
  generalize a1[k]=y at Is;have hg:(if (200:Int)<(y.M.Value.length:Int) then some true else if (200:Int)<(y.M.dv.Value.length:Int) then some true else if (30:Int)<(y.M.Proof.length:Int) then some true else if (30:Int)<(y.M.fN.length:Int) then some true else if (200:Int)<(y.M.R.Value.length:Int) then some true else some (decide ((30:Int)<(y.M.R.Proof.length:Int))):Option Bool) =some (decide (¬(y.M.Value.length<=200/\y.M.dv.Value.length<=200/\y.M.Proof.length<=30/\y.M.fN.length<=30/\y.M.R.Value.length<=200/\y.M.R.Proof.length<=30))):=by
   repeat' split
   all_goals (congr 1;first|(symm;rw [decide_eq_true_iff];omega)|(rw [decide_eq_decide];omega))
  rw [hg,au];by_cases c:y.M.Value.length<=200/\y.M.dv.Value.length<=200/\y.M.Proof.length<=30/\y.M.fN.length<=30/\y.M.R.Value.length<=200/\y.M.R.Proof.length<=30
  ·obtain ⟨c1,c2,c3,c4,c5,c6⟩:=c;rw [decide_eq_false (λh=>h ⟨c1,c2,c3,c4,c5,c6⟩),if_neg (by simp)];refine aL.bd (XA y c4) ?_;rintro r (⟨rfl,hx⟩|rfl)
   ·rw [wrap64 (by omega) (by omega)];exact .mk ⟨by omega,Is ⟨c1,c2,⟨c3,c4,λr hr=>by have:=hx r hr;omega,by omega⟩⟩⟩
   ·exact .mk (.inr rfl)
  ·rw [decide_eq_true c,if_pos rfl];exact .mk (.inr rfl)
 ·unfold rN;rw [if_neg (by omega)];refine .mk (.inl ⟨rfl,λx hx=> ?_⟩);obtain ⟨k,hk,rfl⟩:=sh.1 hx;exact hp k hk hk
structure aiC (c:na) (l:List dz):Prop where
 f:c.S.F<=2
 bad:c.bY.length<=30
 want:c.Want.length<=30
 len:l.length<=80
 atU: ∀x∈c.Want,x.length<=200
 arP: ∀y∈l,Kz y
theorem T6 (c:na)(l:List dz):aL (wP c l) λb=>b=true->aiC c l:=by
 unfold wP;have hg:(if (2:Int)<c.S.F then some true else if (30:Int)<(c.bY.length:Int) then some true else if (30:Int)<(c.Want.length:Int) then some true else some (decide ((80:Int)<(l.length:Int))):Option Bool)=some (decide (¬(c.S.F<=2/\c.bY.length<=30/\c.Want.length<=30/\l.length<=80))):=by
  repeat' split
  all_goals (congr 1;first|(symm;rw [decide_eq_true_iff];omega)|(rw [decide_eq_decide];omega))
 rw [hg,au];by_cases c1:c.S.F<=2/\c.bY.length<=30/\c.Want.length<=30/\l.length<=80;rotate_left
 ·rw [decide_eq_true c1,if_pos rfl];exact .mk (by simp)
 ·obtain ⟨g1,g2,g3,g4⟩:=c1;rw [decide_eq_false (λh=>h ⟨g1,g2,g3,g4⟩),if_neg (by simp)];refine aL.bd (P:=λr=>(r= .inl ()/\ ∀x∈c.Want,x.length<=200)\/r= .inr false) ?_ ?_
  ·refine aL.count (λk=>(k:Int)) c.Want.length (λk=> ∀j (hj:j<c.Want.length),j<k->c.Want[j].length<=200) rfl (λj _ h=>by omega) (λk hk hp=> ?_) (λhp=> ?_)
   ·unfold vo;rw [if_pos (by omega),bA hk];by_cases c:(200:Int)<(c.Want[k].length:Int)
    ·rw [if_pos c];exact .mk (.inr rfl)
    ·rw [if_neg c,wrap64 (by omega) (by omega)];refine .mk ⟨by omega,λj hj hjk=> ?_⟩;by_cases T5:j=k
     ·subst T5;omega
     ·exact hp j hj (by omega)
   ·unfold vo;rw [if_neg (by omega)];refine .mk (.inl ⟨rfl,λx hx=> ?_⟩);obtain ⟨k,hk,rfl⟩:=sh.1 hx;exact hp k hk hk
  ·rintro r (⟨rfl,hw⟩|rfl)
   ·refine aL.bd (XB l g4) ?_;rintro r (⟨rfl,ha⟩|rfl)
    ·exact .mk λ_=>⟨g1,g2,g3,g4,hw,ha⟩
    ·exact .mk (by simp)
   ·exact .mk (by simp)
end Dn.S
