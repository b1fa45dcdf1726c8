import Derived.Test.YtjblhgpbkfmkoaaDnPAcc
import Derived.Test.YtjblhgpbkfmkoaaDnPReport2
/-
  Acceptors: what is entered, proposed and heard. Conditions: none.
-/
open Go Dn
set_option linter.unusedVariables false
set_option linter.unusedSimpArgs false
namespace Dn.S
def gw (s:ai) (L:List aa):List aa×Bool:=
 match kX L (2 *s.F+s.T+1) with
 |none=>([],false)
 |some z=>((L.filter (mO z.View z.Value)).take (2 *s.F+s.T+1).toNat,true)
theorem uj {L:List aa} {cz:Int} {z:aa} (h:kX L cz=some z):z∈L∧1≤cz∧cz≤(ud L z.View z.Value:Int)∧ ∀y∈L,jh L cz y=true→y.View≤z.View:=by
 have:=IC L cz
 rw [h] at this
 obtain ⟨h1,h2,h3⟩:=this
 unfold jh at h2
 simp only [Bool.and_eq_true,decide_eq_true_eq] at h2
 exact ⟨h1,h2.1,h2.2,h3⟩
theorem EB {s:ai} (hs:cD s) {L:List aa} (hv: ∀e∈L,0≤e.View) (hl:L.length<2^32):mE s ⟨L⟩=some (gw s L):=by
 unfold mE gw
 rw [vK hs]
 simp only [aq]
 rw [Et _ hv hl]
 simp only [aq]
 cases hb:kX L (2 *s.F+s.T+1) with
 |none=>simp [hb]
 |some z=>
  obtain ⟨_,h1,h2,_⟩:=uj hb
  have Wp:=(fh s).1 hs
  simp only [wU,Bool.not_true,Bool.false_eq_true,if_false]
  rw [C9 L _ _ hl]
  simp only [aq]
  rw [if_pos ⟨by decide,by omega,by unfold ud at h2;exact h2⟩]
  rfl
theorem II {s:ai} (hs:cD s) {L:List aa} (hl:L.length<2^32):zT (ue s) ⟨L⟩=some (gw s L):=by
 unfold zT gw
 rw [xK hs]
 simp only [aq]
 rw [IB L _ hl]
 simp only [aq]
 cases hb:kX L (2 *s.F+s.T+1) with
 |none=>simp [hb]
 |some z=>
  obtain ⟨_,h1,h2,_⟩:=uj hb
  have Wp:=(fh s).1 hs
  simp only [wU,Bool.not_true,Bool.false_eq_true,if_false]
  rw [vI L _ _ hl]
  simp only [aq]
  rw [if_pos ⟨by decide,by omega,by unfold ud at h2;exact h2⟩]
  rfl
theorem wY {s:ai} {L:List aa} {e:aa} (h:e∈(gw s L).1):e∈L:=by
 unfold gw at h
 cases hb:kX L (2 *s.F+s.T+1) with
 |none=>rw [hb] at h;simp at h
 |some z=>rw [hb] at h;exact (List.mem_filter.1 (List.mem_of_mem_take h)).1
theorem xN {s:ai} (hs:cD s) {L:List aa} (hr:n7 L) (hb: ∀e∈L,e.By<ur s) (h:(gw s L).2=true):rD s (gw s L).1:=by
 have xU:= @wY s L
 unfold gw at *
 cases hz:kX L (2 *s.F+s.T+1) with
 |none=>rw [hz] at h;simp at h
 |some z=>
  rw [hz] at xU
  obtain ⟨_,h1,h2,_⟩:=uj hz
  simp only at xU⊢
  refine ⟨hs,?_,⟨fun e he=>hr.all e (xU he),?_⟩,fun e he=>hb e (xU he),fun e he f hf=> ?_⟩
  ·unfold ud at h2
   rw [List.length_take]
   omega
  ·exact hr.inc.sublist ((List.take_sublist _ _).trans List.filter_sublist)
  ·have g1:=(List.mem_filter.1 (List.mem_of_mem_take he)).2
   have g2:=(List.mem_filter.1 (List.mem_of_mem_take hf)).2
   unfold mO at g1 g2
   simp only [Bool.and_eq_true,decide_eq_true_eq] at g1 g2
   exact ⟨by rw [g1.1,g2.1],by rw [g1.2,g2.2]⟩
def AV (a:ae) (view:Int):ae×al×Bool:=
 if view≤a.View∨100000<view then (a,⟨0,0,false,0,[],[]⟩,false) else (⟨a.S,a.Me,view,a.Has,a.At,a.Value,a.Proof,⟨[]⟩⟩,⟨a.Me,view,a.Has,a.At,a.Value,a.Proof⟩,true)
theorem or_some {p q:Prop} [Decidable p] [Decidable q]:(if p then some true else some (decide q):Option Bool)=some (decide (p∨q)):=by
 by_cases hp:p<;>by_cases hq:q<;>simp [hp,hq]
theorem PF (a:ae) (view:Int):dm a view=some (AV a view):=by
 unfold dm AV
 rw [or_some]
 by_cases h:view≤a.View∨100000<view
 ·simp only [h,decide_true,aq,if_true]
 ·simp only [h,decide_false,aq,Bool.false_eq_true,if_false];rfl
def PG (a:ae) (view:Int) (value:List UInt8):Prop:=view=a.View∧ ¬(a.Has=true∧a.At=view)∧value.length≤6000
instance (a:ae) (view:Int) (value:List UInt8):Decidable (PG a view value):=inferInstanceAs (Decidable (_∧_∧_))
def eg (a:ae) (view:Int) (value:List UInt8) (ok:Bool):ae×aa×Bool:=
 if ok=true then (⟨a.S,a.Me,a.View,true,view,value,a.Proof,a.ba⟩,⟨a.Me,view,value⟩,true) else (a,⟨0,0,[]⟩,false)
theorem IJ (a:ae) (view:Int) (value:List UInt8) (eP:List al) (hp: ∀r∈eP,r.Proof.length<2^32) (hl:eP.length<2^32):
 ∃ok:Bool,cn a view value eP=some (eg a view value ok)∧xB (ui a) view value eP=some (ui (eg a view value ok).1,(eg a view value ok).2)∧
  (ok=true→PG a view value∧(¬(view=0∧eP=[])→cO (ue a.S) view eP value=some true)):=by
 obtain ⟨b,e1,e2⟩:=EA a.S view eP value hp hl
 unfold cn xB
 have c0:(ui a).View=a.View:=rfl
 have c1:(ui a).Has=a.Has:=rfl
 have c2:(ui a).At=a.At:=rfl
 have c3:(ui a).S=ue a.S:=rfl
 rw [c0,c1,c2,c3]
 have lr:(if view=0 then some (decide ((eP.length:Int)=0)) else some false:Option Bool)=some (decide (view=0∧eP=[])):=by
  by_cases g1:view=0
  ·by_cases g2:eP=[]
   ·simp [g1,g2]
   ·have: ¬((eP.length:Int)=0):=by
     intro h;exact g2 (List.eq_nil_of_length_eq_zero (by omega))
    simp [g1,g2,this]
  ·simp [g1]
 rw [lr]
 simp only [aq]
 by_cases g1:view=a.View
 rotate_left
 ·exact ⟨false,by simp [g1,eg],by simp [g1,eg],fun h=>(by cases h)⟩
 by_cases g3:(6000:Int)<(value.length:Int)
 ·refine ⟨false,?_,?_,fun h=>(by cases h)⟩
  ·by_cases g2:a.At=view<;>cases a.Has<;>simp [g1,g2,g3,eg]
  ·by_cases g2:a.At=view<;>cases a.Has<;>simp [g1,g2,g3,eg]
 have hv:value.length≤6000:=by omega
 by_cases g2:a.Has=true∧a.At=view
 ·exact ⟨false,by simp [g1,g2.1,g2.2,eg],by simp [g1,g2.1,g2.2,eg],fun h=>(by cases h)⟩
 have hA:(if !decide (view=a.View) then some true else if a.Has then (if a.At=view then some true else some (decide ((6000:Int)<(value.length:Int)))) else some (decide ((6000:Int)<(value.length:Int))):Option Bool)=some false:=by
  cases hh:a.Has with
  |false=>simp [g1];omega
  |true=>
   have: ¬a.At=view:=fun h=>g2 ⟨hh,h⟩
   rw [g1] at this
   simp [g1,this];omega
 rw [hA]
 simp only [aq,Bool.false_eq_true,if_false]
 by_cases g4:view=0∧eP=[]
 ·refine ⟨true,?_,?_,fun _=>⟨⟨g1,g2,hv⟩,fun h=>absurd g4 h⟩⟩
  ·simp [g4,eg]
  ·have:(if !decide (view=a.View) then some true else if a.Has then (if a.At=view then some true else if (6000:Int)<(value.length:Int) then some true else if !(decide (view=0∧eP=[])) then bd (cO (ue a.S) view eP value) fun rA=>some (!rA) else some false) else if (6000:Int)<(value.length:Int) then some true else if !(decide (view=0∧eP=[])) then bd (cO (ue a.S) view eP value) fun rA=>some (!rA) else some false:Option Bool)=some false:=by
    rw [decide_eq_true g4]
    cases hh:a.Has with
    |false=>simp [g1,g3]
    |true=>
     have: ¬a.At=view:=fun h=>g2 ⟨hh,h⟩
     rw [g1] at this
     simp [g1,this,g3]
   rw [this]
   simp only [aq,Bool.false_eq_true,if_false,eg,if_true];rfl
 ·refine ⟨b,?_,?_,fun h=>⟨⟨g1,g2,hv⟩,fun _=>by rw [e2,h]⟩⟩
  ·simp only [g4,decide_false,Bool.false_eq_true,if_false,e1,aq]
   cases b<;>rfl
  ·have:(if !decide (view=a.View) then some true else if a.Has then (if a.At=view then some true else if (6000:Int)<(value.length:Int) then some true else if !(decide (view=0∧eP=[])) then bd (cO (ue a.S) view eP value) fun rA=>some (!rA) else some false) else if (6000:Int)<(value.length:Int) then some true else if !(decide (view=0∧eP=[])) then bd (cO (ue a.S) view eP value) fun rA=>some (!rA) else some false:Option Bool)=some (!b):=by
    rw [decide_eq_false g4,e2]
    cases hh:a.Has with
    |false=>simp [g1,g3]
    |true=>
     have: ¬a.At=view:=fun h=>g2 ⟨hh,h⟩
     rw [g1] at this
     simp [g1,this,g3]
   rw [this]
   cases b<;>rfl
def vN (a:ae) (v:aa):ae×List aa×Bool:=
 if ur a.S≤v.By∨v.View≠a.View then (a,[],false)
 else if¬qE v∨(gw a.S (iz a.ba.L v).1).2=false∨a.View≤(xM a.Proof).1 then (⟨a.S,a.Me,a.View,a.Has,a.At,a.Value,a.Proof,⟨(iz a.ba.L v).1⟩⟩,[],false)
 else (⟨a.S,a.Me,a.View,a.Has,a.At,a.Value,(gw a.S (iz a.ba.L v).1).1,⟨(iz a.ba.L v).1⟩⟩,(gw a.S (iz a.ba.L v).1).1,true)
theorem AW {a:ae} {v:aa} (hr:et a) (h1:v.By<ur a.S) (h2:v.View=a.View): ∀e∈(iz a.ba.L v).1,e.By<ur a.S∧e.View=a.View:=by
 intro e he
 unfold iz at he
 split at he
 ·rcases (Gw hr.ji.inc).1 he with rfl|⟨he,_⟩
  ·exact ⟨h1,h2⟩
  ·exact hr.all e he
 ·exact hr.all e he
theorem AX {a:ae} {v:aa} (hr:et a) (h1:v.By<ur a.S) (h2:v.View=a.View) (hm:(gw a.S (iz a.ba.L v).1).2=true): ∃h:0<(gw a.S (iz a.ba.L v).1).1.length,(gw a.S (iz a.ba.L v).1).1[0].View=a.View:=by
 have hp:=xN hr.sz (uc hr.ji) (fun e he=>(AW hr h1 h2 e he).1) hm
 have Wp:=(fh a.S).1 hr.sz
 have hl:=hp.len
 refine ⟨by omega,?_⟩
 exact (AW hr h1 h2 _ (wY (List.getElem_mem _))).2
theorem RU {a:ae} (hr:et a) (hl:a.ba.L.length<2^31) (v:aa):iJ a v=some (vN a v)∧Ge (ui a) v=some (ui (vN a v).1,(vN a v).2):=by
 have hs:=hr.sz
 have vU:=Gx (L:=a.ba.L) (a:=v)
 have ev: ∀t:au,kj t v=kj ⟨t.L⟩ v:=fun _=>rfl
 unfold iJ Ge vN
 have c3:(ui a).S=ue a.S:=rfl
 have c4:(ui a).View=a.View:=rfl
 have c5:(ui a).ba=⟨a.ba.L⟩:=rfl
 have c6:(ui a).Proof=a.Proof:=rfl
 rw [c3,c4,c5,c6,vJ hs,vL hs]
 simp only [aq,ql,GH,rC,o9]
 rw [ev a.ba,Gv hr.ji.inc (by omega),LC hr.ji.inc (by omega)]
 simp only [aq]
 have adR:(!decide (v.View=a.View))=decide (v.View≠a.View):=by by_cases h:v.View=a.View<;>simp [h]
 rw [adR,or_some]
 show _∧_
 by_cases g:ur a.S≤v.By∨v.View≠a.View
 ·have g':3 *a.S.F+2 *a.S.T+1≤v.By∨v.View≠a.View:=g
  rw [if_pos g]
  refine ⟨?_,?_⟩
  ·rw [decide_eq_true g'];simp
  ·rw [decide_eq_true g']
   by_cases hm:qE v<;>simp [hm]
 have g': ¬(3 *a.S.F+2 *a.S.T+1≤v.By∨v.View≠a.View):=g
 rw [if_neg g]
 have gb:v.By<ur a.S:=by unfold ur;omega
 have gv:v.View=a.View:=by
  by_cases h:v.View=a.View
  ·exact h
  ·exact absurd (.inr h) g
 rw [decide_eq_false g']
 have jS:=uc (a:=v) hr.ji
 rw [EB hs (fun e he=>(jS.all e he).2.1) (by omega),II hs (by omega)]
 simp only [aq,Bool.false_eq_true,if_false]
 by_cases hm:qE v
 rotate_left
 ·have adS:(iz a.ba.L v).1=a.ba.L:=by unfold iz;rw [if_neg (fun h=>hm h.1)]
  simp only [hm,decide_false,Bool.not_false,if_true,aq,adS,not_false_eq_true,true_or]
  exact ⟨trivial,trivial⟩
 simp only [hm,decide_true,Bool.not_true,Bool.false_eq_true,if_false,not_true_eq_false,false_or,aq]
 cases hk:(gw a.S (iz a.ba.L v).1).2 with
 |false=>simp only [Bool.not_false,if_true,aq,true_or];exact ⟨trivial,rfl⟩
 |true=>
  obtain ⟨h0,h1⟩:=AX hr gb gv hk
  simp only [Bool.not_true,Bool.false_eq_true,if_false,aq,jO h0,h1,false_or,Bool.true_eq_false]
  by_cases h2:a.View≤(xM a.Proof).1
  ·simp only [h2,decide_true,if_true];exact ⟨trivial,rfl⟩
  ·simp only [h2,decide_false,Bool.false_eq_true,if_false];exact ⟨trivial,rfl⟩
theorem PH (l:List al):aO (oS l) fun b=>b=true→l.length≤30∧ ∀r∈l,r.Value.length≤6100∧r.Proof.length≤40:=by
 unfold oS
 refine aO.bd (P:=fun r=>r= .inr false∨(r= .inl ()∧l.length≤30∧ ∀r∈l,r.Value.length≤6100∧r.Proof.length≤40)) ?_ ?_
 ·refine aO.count (fun k=>(k:Int)) l.length (fun k=>k≤30∧ ∀j (hj:j<l.length),j<k→l[j].Value.length≤6100∧l[j].Proof.length≤40) rfl ⟨by omega,fun j _ h=>by omega⟩ (fun k hk hp=> ?_) (fun hp=> ?_)
  ·unfold nG
   simp only [show ((k:Int)<(l.length:Int)) by omega,if_true]
   by_cases X4:k=30
   ·simp only [show ((k:Int)=30) by omega,if_true,aq]
    exact .mk (.inl rfl)
   ·simp only [show¬((k:Int)=30) by omega,if_false,bO hk,aq]
    by_cases hv:(6100:Int)<(l[k].Value.length:Int)
    ·simp only [hv,if_true,aq];exact .mk (.inl rfl)
    ·simp only [hv,if_false]
     obtain ⟨b,e,hb⟩:=Py l[k].Proof
     rw [e]
     simp only [aq]
     cases b with
     |false=>simp only [Bool.not_false,if_true];exact .mk (.inl rfl)
     |true=>
      simp only [Bool.not_true,Bool.false_eq_true,if_false]
      rw [wrap64 (by omega) (by omega)]
      refine .mk ⟨by omega,by omega,fun j hj QS=> ?_⟩
      by_cases Pz:j=k
      ·subst Pz;exact ⟨by omega,(hb rfl).1⟩
      ·exact hp.2 j hj (by omega)
  ·unfold nG
   simp only [show¬((l.length:Int)<(l.length:Int)) by omega,if_false]
   refine .mk (.inr ⟨rfl,hp.1,fun e he=> ?_⟩)
   obtain ⟨k,hk,rfl⟩:=List.mem_iff_getElem.1 he
   exact hp.2 k hk hk
 ·rintro r (rfl|⟨rfl,h⟩)
  ·exact .mk (by simp)
  ·exact .mk (fun _=>h)
end Dn.S
