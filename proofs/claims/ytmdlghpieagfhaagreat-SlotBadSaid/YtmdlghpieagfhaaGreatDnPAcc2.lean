import Derived.Test.YtmdlghpieagfhaaGreatDnPAcc
import Derived.Test.YtmdlghpieagfhaaGreatDnPReport2
/-
  Acceptors: what is entered, proposed and heard. Conditions: none.
-/
set_option linter.unusedVariables false
set_option linter.unusedSimpArgs false
open Bool renaming false_eq_true→eJ,not_true→AI,and_eq_true→BY,not_false→IN
open List renaming mem_of_mem_take→sh,mem_filter→AT
open Go Dn
namespace Dn.S
def qN (s:af)(L:List aa):List aa×Bool:=match lJ L (2 *s.F+s.T+1) with
 |none=>([],false)
 |some z=>((L.filter (th z.View z.Value)).take (2 *s.F+s.T+1).toNat,true)
theorem C4 {L:List aa}{b9:Int}{z:aa}(h:lJ L b9=some z):z∈L/\1<=b9/\b9<=(zr L z.View z.Value:Int)/\ ∀y∈L,nU L b9 y=true->y.View<=z.View:=by have:=C2 L b9;rw [h] at this;obtain ⟨h1,h2,h3⟩:=this;unfold nU at h2;simp only [BY,decide_eq_true_eq] at h2;exact ⟨h1,h2.1,h2.2,h3⟩
theorem NX {s:af}(hs:cr s){L:List aa}(hv: ∀e∈L,0<=e.View)(hl:L.length<2^32):ug s ⟨L⟩=some (qN s L):=by
 unfold ug qN;rw [yH hs];simp only [ap];rw [EE _ hv hl];simp only [ap];cases hb:lJ L (2 *s.F+s.T+1) with
 |none=>simp [hb]
 |some z=>obtain ⟨_,h1,h2,_⟩:=C4 hb;have Vl:=(ei s).1 hs;simp only [FG,AI,eJ,if_false];rw [Mg L _ _ hl];simp only [ap];rw [if_pos ⟨by decide,by omega,by unfold zr at h2;exact h2⟩];rfl
theorem Sn {s:af}(hs:cr s){L:List aa}(hl:L.length<2^32):IH (xI s) ⟨L⟩=some (qN s L):=by
 unfold IH qN;rw [Gz hs];simp only [ap];rw [Si L _ hl];simp only [ap];cases hb:lJ L (2 *s.F+s.T+1) with
 |none=>simp [hb]
 |some z=>obtain ⟨_,h1,h2,_⟩:=C4 hb;have Vl:=(ei s).1 hs;simp only [FG,AI,eJ,if_false];rw [ED L _ _ hl];simp only [ap];rw [if_pos ⟨by decide,by omega,by unfold zr at h2;exact h2⟩];rfl
theorem FJ {s:af}{L:List aa}{e:aa}(h:e∈(qN s L).1):e∈L:=by
 unfold qN at h;cases hb:lJ L (2 *s.F+s.T+1) with
 |none=>rw [hb] at h;simp at h
 |some z=>rw [hb] at h;exact (AT.1 (sh h)).1
theorem GB {s:af}(hs:cr s){L:List aa}(hr:qz L)(hb: ∀e∈L,e.By<uI s)(h:(qN s L).2=true):Az s (qN s L).1:=by
 have qW:= @FJ s L;unfold qN at *;cases hz:lJ L (2 *s.F+s.T+1) with
 |none=>rw [hz] at h;simp at h
 |some z=>
  rw [hz] at qW;obtain ⟨_,h1,h2,_⟩:=C4 hz;simp only at qW⊢;refine ⟨hs,?_,⟨λe he=>hr.all e (qW he),?_⟩,λe he=>hb e (qW he),λe he f hf=> ?_⟩
  ·unfold zr at h2;rw [List.length_take];omega
  ·exact hr.inc.sublist ((List.take_sublist _ _).trans List.filter_sublist)
  ·have g1:=(AT.1 (sh he)).2;have g2:=(AT.1 (sh hf)).2;unfold th at g1 g2;simp only [BY,decide_eq_true_eq] at g1 g2;exact ⟨by rw [g1.1,g2.1],by rw [g1.2,g2.2]⟩
def j9 (a:ae)(view:Int):ae×ab×Bool:=if view<=a.View\/100000<view then (a,⟨0,0,false,0,[],[]⟩,false) else (⟨a.S,a.Me,view,a.Has,a.At,a.Value,a.Proof,⟨[]⟩⟩,⟨a.Me,view,a.Has,a.At,a.Value,a.Proof⟩,true)
theorem or_some {p q:Prop}[Decidable p][Decidable q]:(if p then some true else some (decide q):Option Bool)=some (decide (p\/q)):=by by_cases hp:p<;>by_cases hq:q<;>simp [hp,hq]
theorem Ze (a:ae)(view:Int):mY a view=some (j9 a view):=by
 unfold mY j9;rw [or_some];by_cases h:view<=a.View\/100000<view
 ·simp only [h,decide_true,ap,if_true]
 ·simp only [h,decide_false,ap,eJ,if_false];rfl
theorem Qk (a:ae)(view:Int):Fi (u5 a) view=some (u5 (j9 a view).1,(j9 a view).2):=by
 unfold Fi j9;have e:(u5 a).View=a.View:=rfl;rw [e,or_some];by_cases h:view<=a.View\/100000<view
 ·simp only [h,decide_true,ap,if_true]
 ·simp only [h,decide_false,ap,eJ,if_false];rfl
def TS (a:ae)(view:Int)(value:List UInt8):Prop:=view=a.View/\ ¬(a.Has=true/\a.At=view)/\value.length<=6000
instance (a:ae) (view:Int) (value:List UInt8):Decidable (TS a view value):=inferInstanceAs (Decidable (_/\_/\_))
def cN (a:ae)(view:Int)(value:List UInt8)(ok:Bool):ae×aa×Bool:=if ok=true then (⟨a.S,a.Me,a.View,true,view,value,a.Proof,a.bV⟩,⟨a.Me,view,value⟩,true) else (a,⟨0,0,[]⟩,false)
theorem So (a:ae)(view:Int)(value:List UInt8)(kZ:List ab)(hp: ∀r∈kZ,r.Proof.length<2^32)(hl:kZ.length<2^32): ∃ok:Bool,fe a view value kZ=some (cN a view value ok)/\z6 (u5 a) view value kZ=some (u5 (cN a view value ok).1,(cN a view value ok).2)/\ (ok=true->TS a view value/\(¬(view=0/\kZ=[])->jM (xI a.S) view kZ value=some true)):=by
 obtain ⟨b,e1,e2⟩:=NW a.S view kZ value hp hl;unfold fe z6;have c0:(u5 a).View=a.View:=rfl;have c1:(u5 a).Has=a.Has:=rfl;have c2:(u5 a).At=a.At:=rfl;have c3:(u5 a).S=xI a.S:=rfl;rw [c0,c1,c2,c3];have vj:(if view=0 then some (decide ((kZ.length:Int)=0)) else some false:Option Bool)=some (decide (view=0/\kZ=[])):=by
  by_cases g1:view=0
  ·by_cases g2:kZ=[]
   ·simp [g1,g2]
   ·have: ¬((kZ.length:Int)=0):=by intro h;exact g2 (List.eq_nil_of_length_eq_zero (by omega))
    simp [g1,g2,this]
  ·simp [g1]
 rw [vj];simp only [ap];by_cases g1:view=a.View;rotate_left
 ·exact ⟨false,by simp [g1,cN],by simp [g1,cN],λh=>(by cases h)⟩
 by_cases g3:(6000:Int)<(value.length:Int)
 ·refine ⟨false,?_,?_,λh=>(by cases h)⟩
  ·by_cases g2:a.At=view<;>cases a.Has<;>simp [g1,g2,g3,cN]
  ·by_cases g2:a.At=view<;>cases a.Has<;>simp [g1,g2,g3,cN]
 have hv:value.length<=6000:=by omega
 by_cases g2:a.Has=true/\a.At=view
 ·exact ⟨false,by simp [g1,g2.1,g2.2,cN],by simp [g1,g2.1,g2.2,cN],λh=>(by cases h)⟩
 have hA:(if !decide (view=a.View) then some true else if a.Has then (if a.At=view then some true else some (decide ((6000:Int)<(value.length:Int)))) else some (decide ((6000:Int)<(value.length:Int))):Option Bool)=some false:=by
  cases hh:a.Has with
  |false=>simp [g1];omega
  |true=>have: ¬a.At=view:=λh=>g2 ⟨hh,h⟩;rw [g1] at this;simp [g1,this];omega
 rw [hA];simp only [ap,eJ,if_false];by_cases g4:view=0/\kZ=[]
 ·refine ⟨true,?_,?_,λ_=>⟨⟨g1,g2,hv⟩,λh=>absurd g4 h⟩⟩
  ·simp [g4,cN]
  ·have:(if !decide (view=a.View) then some true else if a.Has then (if a.At=view then some true else if (6000:Int)<(value.length:Int) then some true else if !(decide (view=0/\kZ=[])) then bd (jM (xI a.S) view kZ value) λrA=>some (!rA) else some false) else if (6000:Int)<(value.length:Int) then some true else if !(decide (view=0/\kZ=[])) then bd (jM (xI a.S) view kZ value) λrA=>some (!rA) else some false:Option Bool)=some false:=by
    rw [decide_eq_true g4];cases hh:a.Has with
    |false=>simp [g1,g3]
    |true=>have: ¬a.At=view:=λh=>g2 ⟨hh,h⟩;rw [g1] at this;simp [g1,this,g3]
   rw [this];simp only [ap,eJ,if_false,cN,if_true];rfl
 ·refine ⟨b,?_,?_,λh=>⟨⟨g1,g2,hv⟩,λ_=>by rw [e2,h]⟩⟩
  ·simp only [g4,decide_false,eJ,if_false,e1,ap];cases b<;>rfl
  ·have:(if !decide (view=a.View) then some true else if a.Has then (if a.At=view then some true else if (6000:Int)<(value.length:Int) then some true else if !(decide (view=0/\kZ=[])) then bd (jM (xI a.S) view kZ value) λrA=>some (!rA) else some false) else if (6000:Int)<(value.length:Int) then some true else if !(decide (view=0/\kZ=[])) then bd (jM (xI a.S) view kZ value) λrA=>some (!rA) else some false:Option Bool)=some (!b):=by
    rw [decide_eq_false g4,e2];cases hh:a.Has with
    |false=>simp [g1,g3]
    |true=>have: ¬a.At=view:=λh=>g2 ⟨hh,h⟩;rw [g1] at this;simp [g1,this,g3]
   rw [this];cases b<;>rfl
def iD (a:ae)(v:aa):ae×List aa×Bool:=if uI a.S<=v.By\/v.View≠a.View then (a,[],false)
 else if¬sF v\/(qN a.S (ia a.bV.L v).1).2=false\/a.View<=(Mi a.Proof).1 then (⟨a.S,a.Me,a.View,a.Has,a.At,a.Value,a.Proof,⟨(ia a.bV.L v).1⟩⟩,[],false)
 else (⟨a.S,a.Me,a.View,a.Has,a.At,a.Value,(qN a.S (ia a.bV.L v).1).1,⟨(ia a.bV.L v).1⟩⟩,(qN a.S (ia a.bV.L v).1).1,true)
theorem JU {a:ae}{v:aa}(hr:iK a)(h1:v.By<uI a.S)(h2:v.View=a.View): ∀e∈(ia a.bV.L v).1,e.By<uI a.S/\e.View=a.View:=by
 intro e he;unfold ia at he;split at he
 ·rcases (Ay hr.uJ.inc).1 he with rfl|⟨he,_⟩
  ·exact ⟨h1,h2⟩
  ·exact hr.all e he
 ·exact hr.all e he
theorem Sp {a:ae}{v:aa}(hr:iK a)(h1:v.By<uI a.S)(h2:v.View=a.View)(hm:(qN a.S (ia a.bV.L v).1).2=true): ∃h:0<(qN a.S (ia a.bV.L v).1).1.length,(qN a.S (ia a.bV.L v).1).1[0].View=a.View:=by have hp:=GB hr.sz (uG hr.uJ) (λe he=>(JU hr h1 h2 e he).1) hm;have Vl:=(ei a.S).1 hr.sz;have hl:=hp.len;refine ⟨by omega,?_⟩;exact (JU hr h1 h2 _ (FJ (List.getElem_mem _))).2
theorem TT {a:ae}(hr:iK a)(hl:a.bV.L.length<2^31)(v:aa):lP a v=some (iD a v)/\II (u5 a) v=some (u5 (iD a v).1,(iD a v).2):=by
 have hs:=hr.sz;have EQ:=P9 (L:=a.bV.L) (a:=v);have ev: ∀t:aD,iR t v=iR ⟨t.L⟩ v:=λ_=>rfl;unfold lP II iD;have c3:(u5 a).S=xI a.S:=rfl;have c4:(u5 a).View=a.View:=rfl;have c5:(u5 a).bV=⟨a.bV.L⟩:=rfl;have c6:(u5 a).Proof=a.Proof:=rfl;rw [c3,c4,c5,c6,uH hs,Bn hs];simp only [ap,yI,Qe,vQ,xA];rw [ev a.bV,vR hr.uJ.inc (by omega),Vj hr.uJ.inc (by omega)];simp only [ap];have aoi:(!decide (v.View=a.View))=decide (v.View≠a.View):=by by_cases h:v.View=a.View<;>simp [h]
 rw [aoi,or_some];show _/\_;by_cases g:uI a.S<=v.By\/v.View≠a.View
 ·have g':3 *a.S.F+2 *a.S.T+1<=v.By\/v.View≠a.View:=g;rw [if_pos g];refine ⟨?_,?_⟩
  ·rw [decide_eq_true g'];simp
  ·rw [decide_eq_true g'];by_cases hm:sF v<;>simp [hm]
 have g': ¬(3 *a.S.F+2 *a.S.T+1<=v.By\/v.View≠a.View):=g;rw [if_neg g];have gb:v.By<uI a.S:=by unfold uI;omega
 have gv:v.View=a.View:=by
  by_cases h:v.View=a.View
  ·exact h
  ·exact absurd (.inr h) g
 rw [decide_eq_false g'];have rR:=uG (a:=v) hr.uJ;rw [NX hs (λe he=>(rR.all e he).2.1) (by omega),Sn hs (by omega)];simp only [ap,eJ,if_false];by_cases hm:sF v;rotate_left
 ·have aoj:(ia a.bV.L v).1=a.bV.L:=by unfold ia;rw [if_neg (λh=>hm h.1)]
  simp only [hm,decide_false,IN,if_true,ap,aoj,not_false_eq_true,true_or];exact ⟨trivial,trivial⟩
 simp only [hm,decide_true,AI,eJ,if_false,not_true_eq_false,false_or,ap];cases hk:(qN a.S (ia a.bV.L v).1).2 with
 |false=>simp only [IN,if_true,ap,true_or];exact ⟨trivial,rfl⟩
 |true=>
  obtain ⟨h0,h1⟩:=Sp hr gb gv hk;simp only [AI,eJ,if_false,ap,jT h0,h1,false_or,Bool.true_eq_false];by_cases h2:a.View<=(Mi a.Proof).1
  ·simp only [h2,decide_true,if_true];exact ⟨trivial,rfl⟩
  ·simp only [h2,decide_false,eJ,if_false];exact ⟨trivial,rfl⟩
end Dn.S
