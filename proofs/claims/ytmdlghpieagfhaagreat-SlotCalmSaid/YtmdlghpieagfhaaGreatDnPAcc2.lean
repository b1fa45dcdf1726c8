import Derived.Test.YtmdlghpieagfhaaGreatDnPAcc
import Derived.Test.YtmdlghpieagfhaaGreatDnPReport2
/- Acceptors: what is entered, proposed and heard. Conditions: none. -/
set_option linter.unusedVariables false
set_option linter.unusedSimpArgs false
open Bool renaming false_eq_true→cV,not_true→AT,and_eq_true→BY,not_false→IT
open List renaming mem_of_mem_take→sh,mem_filter→AI
open Go Dn
namespace Dn.S
def jq (s:ae)(L:List aa):List aa×Bool:=match ol L (2 *s.F+s.T+1) with
 |none=>([],false)
 |some z=>((L.filter (ve z.View z.Value)).take (2 *s.F+s.T+1).toNat,true)
theorem Di {L:List aa}{b6:Int}{z:aa}(h:ol L b6=some z):z∈L/\1<=b6/\b6<=(wJ L z.View z.Value:Int)/\ ∀y∈L,qI L b6 y=true->y.View<=z.View:=by have:=yO L b6;rw [h] at this;obtain ⟨h1,h2,h3⟩:=this;unfold qI at h2;simp only [BY,decide_eq_true_eq] at h2;exact ⟨h1,h2.1,h2.2,h3⟩
theorem Pk {s:ae}(hs:cC s){L:List aa}(hv: ∀e∈L,0<=e.View)(hl:L.length<2^32):uv s ⟨L⟩=some (jq s L):=by
 unfold uv jq;rw [yP hs];simp only [au];rw [EJ _ hv hl];simp only [au];cases hb:ol L (2 *s.F+s.T+1) with
 |none=>simp [hb]
 |some z=>obtain ⟨_,h1,h2,_⟩:=Di hb;have Nj:=(b7 s).1 hs;simp only [XV,AT,cV,if_false];rw [Nh L _ _ hl];simp only [au];rw [if_pos ⟨by decide,by omega,by unfold wJ at h2;exact h2⟩];rfl
theorem xE {s:ae}{L:List aa}{e:aa}(h:e∈(jq s L).1):e∈L:=by
 unfold jq at h;cases hb:ol L (2 *s.F+s.T+1) with
 |none=>rw [hb] at h;simp at h
 |some z=>rw [hb] at h;exact (AI.1 (sh h)).1
theorem vY {s:ae}(hs:cC s){L:List aa}(hr:qm L)(hb: ∀e∈L,e.By<kz s)(h:(jq s L).2=true):uN s (jq s L).1:=by
 have kG:= @xE s L;unfold jq at *;cases hz:ol L (2 *s.F+s.T+1) with
 |none=>rw [hz] at h;simp at h
 |some z=>
  rw [hz] at kG;obtain ⟨_,h1,h2,_⟩:=Di hz;simp only at kG⊢;refine ⟨hs,?_,⟨λe he=>hr.all e (kG he),?_⟩,λe he=>hb e (kG he),λe he f hf=> ?_⟩
  ·unfold wJ at h2;rw [List.length_take];omega
  ·exact hr.inc.sublist ((List.take_sublist _ _).trans List.filter_sublist)
  ·have g1:=(AI.1 (sh he)).2;have g2:=(AI.1 (sh hf)).2;unfold ve at g1 g2;simp only [BY,decide_eq_true_eq] at g1 g2;exact ⟨by rw [g1.1,g2.1],by rw [g1.2,g2.2]⟩
def iL (a:af)(view:Int):af×ab×Bool:=if view<=a.View\/100000<view then (a,⟨0,0,false,0,[],[]⟩,false) else (⟨a.S,a.Me,view,a.Has,a.At,a.Value,a.Proof,⟨[]⟩⟩,⟨a.Me,view,a.Has,a.At,a.Value,a.Proof⟩,true)
theorem or_some {p q:Prop}[Decidable p][Decidable q]:(if p then some true else some (decide q):Option Bool)=some (decide (p\/q)):=by by_cases hp:p<;>by_cases hq:q<;>simp [hp,hq]
theorem ack (a:af)(view:Int):mR a view=some (iL a view):=by
 unfold mR iL;rw [or_some];by_cases h:view<=a.View\/100000<view
 ·simp only [h,decide_true,au,if_true]
 ·simp only [h,decide_false,au,cV,if_false];rfl
def Np (a:af)(view:Int)(value:List UInt8):Prop:=view=a.View/\ ¬(a.Has=true/\a.At=view)/\value.length<=6000
instance (a:af) (view:Int) (value:List UInt8):Decidable (Np a view value):=inferInstanceAs (Decidable (_/\_/\_))
def bU (a:af)(view:Int)(value:List UInt8)(ok:Bool):af×aa×Bool:=if ok=true then (⟨a.S,a.Me,a.View,true,view,value,a.Proof,a.bT⟩,⟨a.Me,view,value⟩,true) else (a,⟨0,0,[]⟩,false)
theorem yQ (a:af)(view:Int)(value:List UInt8)(gJ:List ab)(hp: ∀r∈gJ,r.Proof.length<2^32)(hl:gJ.length<2^32): ∃ok:Bool,dO a view value gJ=some (bU a view value ok)/\ (ok=true->Np a view value/\(¬(view=0/\gJ=[])->cW a.S view gJ value=some true)):=by
 obtain ⟨b,e1,_⟩:=Pf a.S view gJ value hp hl;unfold dO;have qC:(if view=0 then some (decide ((gJ.length:Int)=0)) else some false:Option Bool)=some (decide (view=0/\gJ=[])):=by
  by_cases g1:view=0
  ·by_cases g2:gJ=[]
   ·simp [g1,g2]
   ·have: ¬((gJ.length:Int)=0):=by intro h;exact g2 (List.eq_nil_of_length_eq_zero (by omega))
    simp [g1,g2,this]
  ·simp [g1]
 rw [qC];simp only [au];by_cases g1:view=a.View;rotate_left
 ·exact ⟨false,by simp [g1,bU],λh=>(by cases h)⟩
 by_cases g3:(6000:Int)<(value.length:Int)
 ·refine ⟨false,?_,λh=>(by cases h)⟩;by_cases g2:a.At=view<;>cases a.Has<;>simp [g1,g2,g3,bU]
 have hv:value.length<=6000:=by omega
 by_cases g2:a.Has=true/\a.At=view
 ·exact ⟨false,by simp [g1,g2.1,g2.2,bU],λh=>(by cases h)⟩
 have hA:(if !decide (view=a.View) then some true else if a.Has then (if a.At=view then some true else some (decide ((6000:Int)<(value.length:Int)))) else some (decide ((6000:Int)<(value.length:Int))):Option Bool)=some false:=by
  cases hh:a.Has with
  |false=>simp [g1];omega
  |true=>have: ¬a.At=view:=λh=>g2 ⟨hh,h⟩;rw [g1] at this;simp [g1,this];omega
 rw [hA];simp only [au,cV,if_false];by_cases g4:view=0/\gJ=[]
 ·exact ⟨true,by simp [g4,bU],λ_=>⟨⟨g1,g2,hv⟩,λh=>absurd g4 h⟩⟩
 ·refine ⟨b,?_,λh=>⟨⟨g1,g2,hv⟩,λ_=>by rw [e1,h]⟩⟩;simp only [g4,decide_false,cV,if_false,e1,au];cases b<;>rfl
def dp (a:af)(v:aa):af×List aa×Bool:=if kz a.S<=v.By\/v.View≠a.View then (a,[],false)
 else if¬tw v\/(jq a.S (cL a.bT.L v).1).2=false\/a.View<=(mB a.Proof).1 then (⟨a.S,a.Me,a.View,a.Has,a.At,a.Value,a.Proof,⟨(cL a.bT.L v).1⟩⟩,[],false)
 else (⟨a.S,a.Me,a.View,a.Has,a.At,a.Value,(jq a.S (cL a.bT.L v).1).1,⟨(cL a.bT.L v).1⟩⟩,(jq a.S (cL a.bT.L v).1).1,true)
theorem Bb {a:af}{v:aa}(hr:kO a)(h1:v.By<kz a.S)(h2:v.View=a.View): ∀e∈(cL a.bT.L v).1,e.By<kz a.S/\e.View=a.View:=by
 intro e he;unfold cL at he;split at he
 ·rcases (sn hr.jA.inc).1 he with rfl|⟨he,_⟩
  ·exact ⟨h1,h2⟩
  ·exact hr.all e he
 ·exact hr.all e he
theorem Us {a:af}{v:aa}(hr:kO a)(h1:v.By<kz a.S)(h2:v.View=a.View)(hm:(jq a.S (cL a.bT.L v).1).2=true): ∃h:0<(jq a.S (cL a.bT.L v).1).1.length,(jq a.S (cL a.bT.L v).1).1[0].View=a.View:=by have hp:=vY hr.sz (oW hr.jA) (λe he=>(Bb hr h1 h2 e he).1) hm;have Nj:=(b7 a.S).1 hr.sz;have hl:=hp.len;refine ⟨by omega,?_⟩;exact (Bb hr h1 h2 _ (xE (List.getElem_mem _))).2
theorem BU {a:af}(hr:kO a)(hl:a.bT.L.length<2^31)(v:aa):lO a v=some (dp a v):=by
 have hs:=hr.sz;have E3:=RN (L:=a.bT.L) (a:=v);have ev: ∀t:aA,jb t v=jb ⟨t.L⟩ v:=λ_=>rfl;unfold lO dp;rw [om hs];simp only [au,Dh,vW];rw [ev a.bT,vX hr.jA.inc (by omega)];simp only [au];have asq:(!decide (v.View=a.View))=decide (v.View≠a.View):=by by_cases h:v.View=a.View<;>simp [h]
 rw [asq,or_some];by_cases g:kz a.S<=v.By\/v.View≠a.View
 ·have g':3 *a.S.F+2 *a.S.T+1<=v.By\/v.View≠a.View:=g;rw [if_pos g,decide_eq_true g'];simp
 have g': ¬(3 *a.S.F+2 *a.S.T+1<=v.By\/v.View≠a.View):=g;rw [if_neg g,decide_eq_false g'];have sM:=oW (a:=v) hr.jA;rw [Pk hs (λe he=>(sM.all e he).2.1) (by omega)];simp only [au,cV,if_false];by_cases hm:tw v;rotate_left
 ·simp only [hm,decide_false,IT,if_true,au,not_false_eq_true,true_or]
 simp only [hm,decide_true,AT,cV,if_false,not_true_eq_false,false_or,au];cases hk:(jq a.S (cL a.bT.L v).1).2 with
 |false=>simp only [IT,if_true,au,true_or]
 |true=>
  simp only [AT,cV,if_false,au,false_or,Bool.true_eq_false];by_cases h2:a.View<=(mB a.Proof).1
  ·simp only [h2,decide_true,if_true]
  ·simp only [h2,decide_false,cV,if_false]
end Dn.S
