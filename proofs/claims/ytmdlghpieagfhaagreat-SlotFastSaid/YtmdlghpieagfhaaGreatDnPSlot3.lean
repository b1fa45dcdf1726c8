import Derived.Test.YtmdlghpieagfhaaGreatDnPSlot2
/-
  Nodes that enter, lead, are loaded again; SlotNodes. Conditions: none.
-/
open Go Dn
set_option linter.unusedVariables false
set_option linter.unusedSimpArgs false
namespace Dn.S
structure ajI (s:af) (i:Int) (P:Option (au×List al)) (R:Option (ol×List eg)) (k:Nat) (x:au×List al):Prop where
 prog:P=some x
 ref:R=some (plN x.1,x.2.map plM)
 inv:wN s i x.1 (k+1)
 out:x.2.length≤10
 small: ∀y∈x.2,ac6 y
def Ft (i v:Int) (x:List UInt8) (L:List ab):al:=⟨1,i,v,x,L,zV,[],zR⟩
theorem ze {s:af} (hs:cX s):uH (xG s).1∧(xG s).1.S=s∧(xG s).2=0:=by
 unfold xG
 rw [if_pos hs]
 exact ⟨⟨hs,by simp,fun _=>rfl,⟨fun e he=>(by cases he),⟨fun e he=>(by cases he),List.Pairwise.nil⟩⟩,⟨fun e he=>(by cases he),⟨fun e he=>(by cases he),List.Pairwise.nil⟩⟩,⟨fun e he=>(by cases he),⟨fun e he=>(by cases he),List.Pairwise.nil⟩⟩⟩,rfl,rfl⟩
def BG (s:af) (i:Int):au:=⟨⟨s,i,0,false,0,[],[],⟨[]⟩⟩,(xG s).1,[],-1⟩
theorem PB {s:af} {i:Int} (h:Hm s i):qH s i=some (BG s i,0)∧GY (K3 s) i=some (plN (BG s i),0):=by
 have e0:Pv s i=(⟨s,i,0,false,0,[],[],⟨[]⟩⟩,0):=if_pos h
 obtain ⟨_,_,n3⟩:=ze h.1
 refine ⟨?_,?_⟩
 ·unfold qH
  rw [Pw,e0,bl]
  simp only [decide_true,Bool.not_true,Bool.false_eq_true,if_false]
  rw [KM,bl,n3]
  rfl
 ·unfold GY
  rw [Px,e0,bl]
  simp only [decide_true,Bool.not_true,Bool.false_eq_true,if_false]
  rw [Pz,bl]
  rfl
theorem PC (y:dv) (hl:y.M.fE.length≤30):bT (Loop (oX y) 0) fun r=>(r= .inl ()∧ ∀x∈y.M.fE,x.Proof.length≤30)∨r= .inr false:=by
 refine bT.count (fun k=>(k:Int)) y.M.fE.length (fun k=> ∀j (hj:j<y.M.fE.length),j<k→y.M.fE[j].Proof.length≤30) rfl (fun j _ h=>by omega) (fun k hk hp=> ?_) (fun hp=> ?_)
 ·unfold oX
  rw [if_pos (by omega),cW hk]
  by_cases c:(30:Int)<(y.M.fE[k].Proof.length:Int)
  ·rw [if_pos c];exact .mk (.inr rfl)
  ·rw [if_neg c,wrap64 (by omega) (by omega)]
   refine .mk ⟨by omega,fun j hj Zk=> ?_⟩
   by_cases MJ:j=k
   ·subst MJ;omega
   ·exact hp j hj (by omega)
 ·unfold oX
  rw [if_neg (by omega)]
  refine .mk (.inl ⟨rfl,fun x hx=> ?_⟩)
  obtain ⟨k,hk,rfl⟩:=List.mem_iff_getElem.1 hx
  exact hp k hk hk
structure KQ (y:dv):Prop where
 value:y.M.Value.length≤200
 amY:y.M.oW.Value.length≤200
 m:ada y.M
theorem PD (a1:List dv) (hl:a1.length≤80):bT (Loop (oY a1) 0) fun r=>(r= .inl ()∧ ∀y∈a1,KQ y)∨r= .inr false:=by
 refine bT.count (fun k=>(k:Int)) a1.length (fun k=> ∀j (hj:j<a1.length),j<k→KQ a1[j]) rfl (fun j _ h=>by omega) (fun k hk hp=> ?_) (fun hp=> ?_)
 ·unfold oY
  rw [if_pos (by omega),cW hk]
  have Cx:KQ a1[k]→ ∀j (hj:j<a1.length),j<k+1→KQ a1[j]:=fun h j hj Zk=>by
   by_cases MJ:j=k
   ·subst MJ;exact h
   ·exact hp j hj (by omega)
  generalize a1[k]=y at Cx
  have hg:(if (200:Int)<(y.M.Value.length:Int) then some true else if (200:Int)<(y.M.oW.Value.length:Int) then some true else if (30:Int)<(y.M.Proof.length:Int) then some true else if (30:Int)<(y.M.fE.length:Int) then some true else if (200:Int)<(y.M.R.Value.length:Int) then some true else some (decide ((30:Int)<(y.M.R.Proof.length:Int))):Option Bool)
   =some (decide (¬(y.M.Value.length≤200∧y.M.oW.Value.length≤200∧y.M.Proof.length≤30∧y.M.fE.length≤30∧y.M.R.Value.length≤200∧y.M.R.Proof.length≤30))):=by
   repeat' split
   all_goals (congr 1;first|(symm;rw [decide_eq_true_iff];omega)|(rw [decide_eq_decide];omega))
  rw [hg,bl]
  by_cases c:y.M.Value.length≤200∧y.M.oW.Value.length≤200∧y.M.Proof.length≤30∧y.M.fE.length≤30∧y.M.R.Value.length≤200∧y.M.R.Proof.length≤30
  ·obtain ⟨c1,c2,c3,c4,c5,c6⟩:=c
   rw [decide_eq_false (fun h=>h ⟨c1,c2,c3,c4,c5,c6⟩),if_neg (by simp)]
   refine bT.bd (PC y c4) ?_
   rintro r (⟨rfl,hx⟩|rfl)
   ·rw [wrap64 (by omega) (by omega)]
    exact .mk ⟨by omega,Cx ⟨c1,c2,⟨c3,c4,fun r hr=>by have:=hx r hr;omega,by omega⟩⟩⟩
   ·exact .mk (.inr rfl)
  ·rw [decide_eq_true c,if_pos rfl]
   exact .mk (.inr rfl)
 ·unfold oY
  rw [if_neg (by omega)]
  refine .mk (.inl ⟨rfl,fun x hx=> ?_⟩)
  obtain ⟨k,hk,rfl⟩:=List.mem_iff_getElem.1 hx
  exact hp k hk hk
structure YP (c:gz) (l:List dv):Prop where
 f:c.S.F≤2
 bad:c.cV.length≤30
 want:c.Want.length≤30
 len:l.length≤80
 ajJ: ∀x∈c.Want,x.length≤200
 amZ: ∀y∈l,KQ y
theorem MK (c:gz) (l:List dv):bT (sY c l) fun b=>b=true→YP c l:=by
 unfold sY
 have hg:(if (2:Int)<c.S.F then some true else if (30:Int)<(c.cV.length:Int) then some true else if (30:Int)<(c.Want.length:Int) then some true else some (decide ((80:Int)<(l.length:Int))):Option Bool)=some (decide (¬(c.S.F≤2∧c.cV.length≤30∧c.Want.length≤30∧l.length≤80))):=by
  repeat' split
  all_goals (congr 1;first|(symm;rw [decide_eq_true_iff];omega)|(rw [decide_eq_decide];omega))
 rw [hg,bl]
 by_cases c1:c.S.F≤2∧c.cV.length≤30∧c.Want.length≤30∧l.length≤80
 rotate_left
 ·rw [decide_eq_true c1,if_pos rfl];exact .mk (by simp)
 ·obtain ⟨g1,g2,g3,g4⟩:=c1
  rw [decide_eq_false (fun h=>h ⟨g1,g2,g3,g4⟩),if_neg (by simp)]
  refine bT.bd (P:=fun r=>(r= .inl ()∧ ∀x∈c.Want,x.length≤200)∨r= .inr false) ?_ ?_
  ·refine bT.count (fun k=>(k:Int)) c.Want.length (fun k=> ∀j (hj:j<c.Want.length),j<k→c.Want[j].length≤200) rfl (fun j _ h=>by omega) (fun k hk hp=> ?_) (fun hp=> ?_)
   ·unfold rL
    rw [if_pos (by omega),cW hk]
    by_cases c:(200:Int)<(c.Want[k].length:Int)
    ·rw [if_pos c];exact .mk (.inr rfl)
    ·rw [if_neg c,wrap64 (by omega) (by omega)]
     refine .mk ⟨by omega,fun j hj Zk=> ?_⟩
     by_cases MJ:j=k
     ·subst MJ;omega
     ·exact hp j hj (by omega)
   ·unfold rL
    rw [if_neg (by omega)]
    refine .mk (.inl ⟨rfl,fun x hx=> ?_⟩)
    obtain ⟨k,hk,rfl⟩:=List.mem_iff_getElem.1 hx
    exact hp k hk hk
  ·rintro r (⟨rfl,hw⟩|rfl)
   ·refine bT.bd (PD l g4) ?_
    rintro r (⟨rfl,ha⟩|rfl)
    ·exact .mk fun _=>⟨g1,g2,g3,g4,hw,ha⟩
    ·exact .mk (by simp)
   ·exact .mk (by simp)
end Dn.S
