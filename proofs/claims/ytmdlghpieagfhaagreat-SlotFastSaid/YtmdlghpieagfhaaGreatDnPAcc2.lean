import Derived.Test.YtmdlghpieagfhaaGreatDnPAcc
import Derived.Test.YtmdlghpieagfhaaGreatDnPReport2
/-
  Acceptors: what is entered, proposed and heard. Conditions: none.
-/
open Go Dn
set_option linter.unusedVariables false
set_option linter.unusedSimpArgs false
namespace Dn.S
def nM (s:af) (L:List aa):List aa×Bool:=
 match kN L (2 *s.F+s.T+1) with
 |none=>([],false)
 |some z=>((L.filter (rl z.View z.Value)).take (2 *s.F+s.T+1).toNat,true)
theorem zd {L:List aa} {bM:Int} {z:aa} (h:kN L bM=some z):z∈L∧1≤bM∧bM≤(AL L z.View z.Value:Int)∧ ∀y∈L,lq L bM y=true→y.View≤z.View:=by
 have:=zb L bM
 rw [h] at this
 obtain ⟨h1,h2,h3⟩:=this
 unfold lq at h2
 simp only [Bool.and_eq_true,decide_eq_true_eq] at h2
 exact ⟨h1,h2.1,h2.2,h3⟩
theorem IH {s:af} (hs:cX s) {L:List aa} (hv: ∀e∈L,0≤e.View) (hl:L.length<2^32):qL s ⟨L⟩=some (nM s L):=by
 unfold qL nM
 rw [IG hs]
 simp only [bl]
 rw [AN _ hv hl]
 simp only [bl]
 cases hb:kN L (2 *s.F+s.T+1) with
 |none=>simp [hb]
 |some z=>
  obtain ⟨_,h1,h2,_⟩:=zd hb
  have YM:=(fY s).1 hs
  simp only [BD,Bool.not_true,Bool.false_eq_true,if_false]
  rw [Pu L _ _ hl]
  simp only [bl]
  rw [if_pos ⟨by decide,by omega,by unfold AL at h2;exact h2⟩]
  rfl
theorem MC {s:af} (hs:cX s) {L:List aa} (hl:L.length<2^32):Ej (K3 s) ⟨L⟩=some (nM s L):=by
 unfold Ej nM
 rw [KJ hs]
 simp only [bl]
 rw [MB L _ hl]
 simp only [bl]
 cases hb:kN L (2 *s.F+s.T+1) with
 |none=>simp [hb]
 |some z=>
  obtain ⟨_,h1,h2,_⟩:=zd hb
  have YM:=(fY s).1 hs
  simp only [BD,Bool.not_true,Bool.false_eq_true,if_false]
  rw [AM L _ _ hl]
  simp only [bl]
  rw [if_pos ⟨by decide,by omega,by unfold AL at h2;exact h2⟩]
  rfl
theorem BF {s:af} {L:List aa} {e:aa} (h:e∈(nM s L).1):e∈L:=by
 unfold nM at h
 cases hb:kN L (2 *s.F+s.T+1) with
 |none=>rw [hb] at h;simp at h
 |some z=>rw [hb] at h;exact (List.mem_filter.1 (List.mem_of_mem_take h)).1
theorem Co {s:af} (hs:cX s) {L:List aa} (hr:sE L) (hb: ∀e∈L,e.By<vl s) (h:(nM s L).2=true):Th s (nM s L).1:=by
 have JU:= @BF s L
 unfold nM at *
 cases hz:kN L (2 *s.F+s.T+1) with
 |none=>rw [hz] at h;simp at h
 |some z=>
  rw [hz] at JU
  obtain ⟨_,h1,h2,_⟩:=zd hz
  simp only at JU⊢
  refine ⟨hs,?_,⟨fun e he=>hr.all e (JU he),?_⟩,fun e he=>hb e (JU he),fun e he f hf=> ?_⟩
  ·unfold AL at h2
   rw [List.length_take]
   omega
  ·exact hr.inc.sublist ((List.take_sublist _ _).trans List.filter_sublist)
  ·have g1:=(List.mem_filter.1 (List.mem_of_mem_take he)).2
   have g2:=(List.mem_filter.1 (List.mem_of_mem_take hf)).2
   unfold rl at g1 g2
   simp only [Bool.and_eq_true,decide_eq_true_eq] at g1 g2
   exact ⟨by rw [g1.1,g2.1],by rw [g1.2,g2.2]⟩
theorem or_some {p q:Prop} [Decidable p] [Decidable q]:(if p then some true else some (decide q):Option Bool)=some (decide (p∨q)):=by
 by_cases hp:p<;>by_cases hq:q<;>simp [hp,hq]
def ac1 (a:ao) (view:Int) (value:List UInt8):Prop:=view=a.View∧ ¬(a.Has=true∧a.At=view)∧value.length≤6000
instance (a:ao) (view:Int) (value:List UInt8):Decidable (ac1 a view value):=inferInstanceAs (Decidable (_∧_∧_))
def nN (a:ao) (v:aa):ao×List aa×Bool:=
 if vl a.S≤v.By∨v.View≠a.View then (a,[],false)
 else if¬tm v∨(nM a.S (iS a.cP.L v).1).2=false∨a.View≤(ofP a.Proof).1 then (⟨a.S,a.Me,a.View,a.Has,a.At,a.Value,a.Proof,⟨(iS a.cP.L v).1⟩⟩,[],false)
 else (⟨a.S,a.Me,a.View,a.Has,a.At,a.Value,(nM a.S (iS a.cP.L v).1).1,⟨(iS a.cP.L v).1⟩⟩,(nM a.S (iS a.cP.L v).1).1,true)
theorem Fq {a:ao} {v:aa} (hr:uG a) (h1:v.By<vl a.S) (h2:v.View=a.View): ∀e∈(iS a.cP.L v).1,e.By<vl a.S∧e.View=a.View:=by
 intro e he
 unfold iS at he
 split at he
 ·rcases (wL hr.Cn.inc).1 he with rfl|⟨he,_⟩
  ·exact ⟨h1,h2⟩
  ·exact hr.all e he
 ·exact hr.all e he
theorem MD {a:ao} {v:aa} (hr:uG a) (h1:v.By<vl a.S) (h2:v.View=a.View) (hm:(nM a.S (iS a.cP.L v).1).2=true): ∃h:0<(nM a.S (iS a.cP.L v).1).1.length,(nM a.S (iS a.cP.L v).1).1[0].View=a.View:=by
 have hp:=Co hr.sz (q0 hr.Cn) (fun e he=>(Fq hr h1 h2 e he).1) hm
 have YM:=(fY a.S).1 hr.sz
 have hl:=hp.len
 refine ⟨by omega,?_⟩
 exact (Fq hr h1 h2 _ (BF (List.getElem_mem _))).2
theorem Vt {a:ao} (hr:uG a) (hl:a.cP.L.length<2^31) (v:aa):jE a v=some (nN a v)∧Ek (Vq a) v=some (Vq (nN a v).1,(nN a v).2):=by
 have hs:=hr.sz
 have BT:=KG (L:=a.cP.L) (a:=v)
 have ev: ∀t:ay,iL t v=iL ⟨t.L⟩ v:=fun _=>rfl
 unfold jE Ek nN
 have c3:(Vq a).S=K3 a.S:=rfl
 have c4:(Vq a).View=a.View:=rfl
 have c5:(Vq a).cP=⟨a.cP.L⟩:=rfl
 have c6:(Vq a).Proof=a.Proof:=rfl
 rw [c3,c4,c5,c6,tp hs,NU hs]
 simp only [bl,Fp,Ti,wK,BC]
 rw [ev a.cP,Cm hr.Cn.inc (by omega),Pt hr.Cn.inc (by omega)]
 simp only [bl]
 have ahJ:(!decide (v.View=a.View))=decide (v.View≠a.View):=by by_cases h:v.View=a.View<;>simp [h]
 rw [ahJ,or_some]
 show _∧_
 by_cases g:vl a.S≤v.By∨v.View≠a.View
 ·have g':3 *a.S.F+2 *a.S.T+1≤v.By∨v.View≠a.View:=g
  rw [if_pos g]
  refine ⟨?_,?_⟩
  ·rw [decide_eq_true g'];simp
  ·rw [decide_eq_true g']
   by_cases hm:tm v<;>simp [hm]
 have g': ¬(3 *a.S.F+2 *a.S.T+1≤v.By∨v.View≠a.View):=g
 rw [if_neg g]
 have gb:v.By<vl a.S:=by unfold vl;omega
 have gv:v.View=a.View:=by
  by_cases h:v.View=a.View
  ·exact h
  ·exact absurd (.inr h) g
 rw [decide_eq_false g']
 have oP:=q0 (a:=v) hr.Cn
 rw [IH hs (fun e he=>(oP.all e he).2.1) (by omega),MC hs (by omega)]
 simp only [bl,Bool.false_eq_true,if_false]
 by_cases hm:tm v
 rotate_left
 ·have ahK:(iS a.cP.L v).1=a.cP.L:=by unfold iS;rw [if_neg (fun h=>hm h.1)]
  simp only [hm,decide_false,Bool.not_false,if_true,bl,ahK,not_false_eq_true,true_or]
  exact ⟨trivial,trivial⟩
 simp only [hm,decide_true,Bool.not_true,Bool.false_eq_true,if_false,not_true_eq_false,false_or,bl]
 cases hk:(nM a.S (iS a.cP.L v).1).2 with
 |false=>simp only [Bool.not_false,if_true,bl,true_or];exact ⟨trivial,rfl⟩
 |true=>
  obtain ⟨h0,h1⟩:=MD hr gb gv hk
  simp only [Bool.not_true,Bool.false_eq_true,if_false,bl,IE h0,h1,false_or,Bool.true_eq_false]
  by_cases h2:a.View≤(ofP a.Proof).1
  ·simp only [h2,decide_true,if_true];exact ⟨trivial,rfl⟩
  ·simp only [h2,decide_false,Bool.false_eq_true,if_false];exact ⟨trivial,rfl⟩
end Dn.S
