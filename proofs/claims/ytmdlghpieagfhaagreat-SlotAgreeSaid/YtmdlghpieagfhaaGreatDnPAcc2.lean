import Derived.Test.YtmdlghpieagfhaaGreatDnPAcc
import Derived.Test.YtmdlghpieagfhaaGreatDnPReport2
/-
  Acceptors: what is entered, proposed and heard. Conditions: none.
-/
set_option linter.unusedVariables false
set_option linter.unusedSimpArgs false
open Bool renaming false_eq_true→cM,not_true→AT,and_eq_true→BY,not_false→IT
open List renaming mem_of_mem_take→sh,mem_filter→AI
open Go Dn
namespace Dn.S
def oW (s:ae)(L:List aa):List aa×Bool:=match p0 L (2 *s.F+s.T+1) with
 |none=>([],false)
 |some z=>((L.filter (xf z.View z.Value)).take (2 *s.F+s.T+1).toNat,true)
theorem CR {L:List aa}{cg:Int}{z:aa}(h:p0 L cg=some z):z∈L/\1<=cg/\cg<=(AG L z.View z.Value:Int)/\ ∀y∈L,r8 L cg y=true->y.View<=z.View:=by have:=CO L cg;rw [h] at this;obtain ⟨h1,h2,h3⟩:=this;unfold r8 at h2;simp only [BY,decide_eq_true_eq] at h2;exact ⟨h1,h2.1,h2.2,h3⟩
theorem OQ {s:ae}(hs:cC s){L:List aa}(hv: ∀e∈L,0<=e.View)(hl:L.length<2^32):uh s ⟨L⟩=some (oW s L):=by
 unfold uh oW;rw [yy hs];simp only [au];rw [Ek _ hv hl];simp only [au];cases hb:p0 L (2 *s.F+s.T+1) with
 |none=>simp [hb]
 |some z=>obtain ⟨_,h1,h2,_⟩:=CR hb;have Xl:=(dB s).1 hs;simp only [Xj,AT,cM,if_false];rw [MQ L _ _ hl];simp only [au];rw [if_pos ⟨by decide,by omega,by unfold AG at h2;exact h2⟩];rfl
theorem FC {s:ae}{L:List aa}{e:aa}(h:e∈(oW s L).1):e∈L:=by
 unfold oW at h;cases hb:p0 L (2 *s.F+s.T+1) with
 |none=>rw [hb] at h;simp at h
 |some z=>rw [hb] at h;exact (AI.1 (sh h)).1
theorem Gz {s:ae}(hs:cC s){L:List aa}(hr:pZ L)(hb: ∀e∈L,e.By<mS s)(h:(oW s L).2=true):CP s (oW s L).1:=by
 have ov:= @FC s L;unfold oW at *;cases hz:p0 L (2 *s.F+s.T+1) with
 |none=>rw [hz] at h;simp at h
 |some z=>
  rw [hz] at ov;obtain ⟨_,h1,h2,_⟩:=CR hz;simp only at ov⊢;refine ⟨hs,?_,⟨λe he=>hr.all e (ov he),?_⟩,λe he=>hb e (ov he),λe he f hf=> ?_⟩
  ·unfold AG at h2;rw [List.length_take];omega
  ·exact hr.inc.sublist ((List.take_sublist _ _).trans List.filter_sublist)
  ·have g1:=(AI.1 (sh he)).2;have g2:=(AI.1 (sh hf)).2;unfold xf at g1 g2;simp only [BY,decide_eq_true_eq] at g1 g2;exact ⟨by rw [g1.1,g2.1],by rw [g1.2,g2.2]⟩
def lM (a:ah)(view:Int):ah×ab×Bool:=if view<=a.View\/100000<view then (a,⟨0,0,false,0,[],[]⟩,false) else (⟨a.S,a.Me,view,a.Has,a.At,a.Value,a.Proof,⟨[]⟩⟩,⟨a.Me,view,a.Has,a.At,a.Value,a.Proof⟩,true)
theorem or_some {p q:Prop}[Decidable p][Decidable q]:(if p then some true else some (decide q):Option Bool)=some (decide (p\/q)):=by by_cases hp:p<;>by_cases hq:q<;>simp [hp,hq]
theorem abB (a:ah)(view:Int):mE a view=some (lM a view):=by
 unfold mE lM;rw [or_some];by_cases h:view<=a.View\/100000<view
 ·simp only [h,decide_true,au,if_true]
 ·simp only [h,decide_false,au,cM,if_false];rfl
def Rn (a:ah)(view:Int)(value:List UInt8):Prop:=view=a.View/\ ¬(a.Has=true/\a.At=view)/\value.length<=6000
instance (a:ah) (view:Int) (value:List UInt8):Decidable (Rn a view value):=inferInstanceAs (Decidable (_/\_/\_))
def b8 (a:ah)(view:Int)(value:List UInt8)(ok:Bool):ah×aa×Bool:=if ok=true then (⟨a.S,a.Me,a.View,true,view,value,a.Proof,a.cF⟩,⟨a.Me,view,value⟩,true) else (a,⟨0,0,[]⟩,false)
theorem Em (a:ah)(view:Int)(value:List UInt8)(kQ:List ab)(hp: ∀r∈kQ,r.Proof.length<2^32)(hl:kQ.length<2^32): ∃ok:Bool,fc a view value kQ=some (b8 a view value ok)/\ (ok=true->Rn a view value/\(¬(view=0/\kQ=[])->fH a.S view kQ value=some true)):=by
 obtain ⟨b,e1,_⟩:=ON a.S view kQ value hp hl;unfold fc;have qn:(if view=0 then some (decide ((kQ.length:Int)=0)) else some false:Option Bool)=some (decide (view=0/\kQ=[])):=by
  by_cases g1:view=0
  ·by_cases g2:kQ=[]
   ·simp [g1,g2]
   ·have: ¬((kQ.length:Int)=0):=by intro h;exact g2 (List.eq_nil_of_length_eq_zero (by omega))
    simp [g1,g2,this]
  ·simp [g1]
 rw [qn];simp only [au];by_cases g1:view=a.View;rotate_left
 ·exact ⟨false,by simp [g1,b8],λh=>(by cases h)⟩
 by_cases g3:(6000:Int)<(value.length:Int)
 ·refine ⟨false,?_,λh=>(by cases h)⟩;by_cases g2:a.At=view<;>cases a.Has<;>simp [g1,g2,g3,b8]
 have hv:value.length<=6000:=by omega
 by_cases g2:a.Has=true/\a.At=view
 ·exact ⟨false,by simp [g1,g2.1,g2.2,b8],λh=>(by cases h)⟩
 have hA:(if !decide (view=a.View) then some true else if a.Has then (if a.At=view then some true else some (decide ((6000:Int)<(value.length:Int)))) else some (decide ((6000:Int)<(value.length:Int))):Option Bool)=some false:=by
  cases hh:a.Has with
  |false=>simp [g1];omega
  |true=>have: ¬a.At=view:=λh=>g2 ⟨hh,h⟩;rw [g1] at this;simp [g1,this];omega
 rw [hA];simp only [au,cM,if_false];by_cases g4:view=0/\kQ=[]
 ·exact ⟨true,by simp [g4,b8],λ_=>⟨⟨g1,g2,hv⟩,λh=>absurd g4 h⟩⟩
 ·refine ⟨b,?_,λh=>⟨⟨g1,g2,hv⟩,λ_=>by rw [e1,h]⟩⟩;simp only [g4,decide_false,cM,if_false,e1,au];cases b<;>rfl
def fm (a:ah)(v:aa):ah×List aa×Bool:=if mS a.S<=v.By\/v.View≠a.View then (a,[],false)
 else if¬xe v\/(oW a.S (dV a.cF.L v).1).2=false\/a.View<=(rn a.Proof).1 then (⟨a.S,a.Me,a.View,a.Has,a.At,a.Value,a.Proof,⟨(dV a.cF.L v).1⟩⟩,[],false)
 else (⟨a.S,a.Me,a.View,a.Has,a.At,a.Value,(oW a.S (dV a.cF.L v).1).1,⟨(dV a.cF.L v).1⟩⟩,(oW a.S (dV a.cF.L v).1).1,true)
theorem Ro {a:ah}{v:aa}(hr:kV a)(h1:v.By<mS a.S)(h2:v.View=a.View): ∀e∈(dV a.cF.L v).1,e.By<mS a.S/\e.View=a.View:=by
 intro e he;unfold dV at he;split at he
 ·rcases (AF hr.ll.inc).1 he with rfl|⟨he,_⟩
  ·exact ⟨h1,h2⟩
  ·exact hr.all e he
 ·exact hr.all e he
theorem FD {a:ah}(hr:kV a)(hl:a.cF.L.length<2^31)(v:aa):lv a v=some (fm a v):=by
 have hs:=hr.sz;have EE:=Rh (L:=a.cF.L) (a:=v);have ev: ∀t:aA,iS t v=iS ⟨t.L⟩ v:=λ_=>rfl;unfold lv fm;rw [qa hs];simp only [au,CQ,vK];rw [ev a.cF,vL hr.ll.inc (by omega)];simp only [au];have arH:(!decide (v.View=a.View))=decide (v.View≠a.View):=by by_cases h:v.View=a.View<;>simp [h]
 rw [arH,or_some];by_cases g:mS a.S<=v.By\/v.View≠a.View
 ·have g':3 *a.S.F+2 *a.S.T+1<=v.By\/v.View≠a.View:=g;rw [if_pos g,decide_eq_true g'];simp
 have g': ¬(3 *a.S.F+2 *a.S.T+1<=v.By\/v.View≠a.View):=g;rw [if_neg g,decide_eq_false g'];have rC:=uB (a:=v) hr.ll;rw [OQ hs (λe he=>(rC.all e he).2.1) (by omega)];simp only [au,cM,if_false];by_cases hm:xe v;rotate_left
 ·simp only [hm,decide_false,IT,if_true,au,not_false_eq_true,true_or]
 simp only [hm,decide_true,AT,cM,if_false,not_true_eq_false,false_or,au];cases hk:(oW a.S (dV a.cF.L v).1).2 with
 |false=>simp only [IT,if_true,au,true_or]
 |true=>
  simp only [AT,cM,if_false,au,false_or,Bool.true_eq_false];by_cases h2:a.View<=(rn a.Proof).1
  ·simp only [h2,decide_true,if_true]
  ·simp only [h2,decide_false,cM,if_false]
end Dn.S
