import Derived.Test.YtmdlghpieagfhaaGreatDnPAcc
import Derived.Test.YtmdlghpieagfhaaGreatDnPReport2
/-
  Acceptors: what is entered, proposed and heard. Conditions: none.
-/
set_option linter.unusedVariables false
set_option linter.unusedSimpArgs false
open Bool renaming false_eq_true→fj,not_true→AI,and_eq_true→BY,not_false→IN
open List renaming mem_of_mem_take→sh,mem_filter→AT
open Go Dn
namespace Dn.S
def pN (s:ak)(L:List aa):List aa×Bool:=match kH L (2 *s.F+s.T+1) with
 |none=>([],false)
 |some z=>((L.filter (ub z.View z.Value)).take (2 *s.F+s.T+1).toNat,true)
theorem Eu {L:List aa}{bY:Int}{z:aa}(h:kH L bY=some z):z∈L/\1<=bY/\bY<=(AB L z.View z.Value:Int)/\ ∀y∈L,nQ L bY y=true->y.View<=z.View:=by have:=Er L bY;rw [h] at this;obtain ⟨h1,h2,h3⟩:=this;unfold nQ at h2;simp only [BY,decide_eq_true_eq] at h2;exact ⟨h1,h2.1,h2.2,h3⟩
theorem RV {s:ak}(hs:cR s){L:List aa}(hv: ∀e∈L,0<=e.View)(hl:L.length<2^32):uX s ⟨L⟩=some (pN s L):=by
 unfold uX pN;rw [zU hs];simp only [ar];rw [GF _ hv hl];simp only [ar];cases hb:kH L (2 *s.F+s.T+1) with
 |none=>simp [hb]
 |some z=>obtain ⟨_,h1,h2,_⟩:=Eu hb;have hso:=(eZ s).1 hs;simp only [HL,AI,fj,if_false];rw [PU L _ _ hl];simp only [ar];rw [if_pos ⟨by decide,by omega,by unfold AB at h2;exact h2⟩];rfl
theorem WV {s:ak}(hs:cR s){L:List aa}(hl:L.length<2^32):Bb (vF s) ⟨L⟩=some (pN s L):=by
 unfold Bb pN;rw [BK hs];simp only [ar];rw [Mx L _ hl];simp only [ar];cases hb:kH L (2 *s.F+s.T+1) with
 |none=>simp [hb]
 |some z=>obtain ⟨_,h1,h2,_⟩:=Eu hb;have hso:=(eZ s).1 hs;simp only [HL,AI,fj,if_false];rw [GD L _ _ hl];simp only [ar];rw [if_pos ⟨by decide,by omega,by unfold AB at h2;exact h2⟩];rfl
theorem aan (s:ak)(L:List aa):(pN s L).1.length<=L.length:=by
 unfold pN;cases kH L (2 *s.F+s.T+1) with
 |none=>simp
 |some z=>simp only;exact Nat.le_trans (List.length_take_le' _ _) (List.length_filter_le _ _)
theorem HN {s:ak}{L:List aa}{e:aa}(h:e∈(pN s L).1):e∈L:=by
 unfold pN at h;cases hb:kH L (2 *s.F+s.T+1) with
 |none=>rw [hb] at h;simp at h
 |some z=>rw [hb] at h;exact (AT.1 (sh h)).1
theorem ID {s:ak}(hs:cR s){L:List aa}(hr:qZ L)(hb: ∀e∈L,e.By<tF s)(h:(pN s L).2=true):zW s (pN s L).1:=by
 have Fb:= @HN s L;unfold pN at *;cases hz:kH L (2 *s.F+s.T+1) with
 |none=>rw [hz] at h;simp at h
 |some z=>
  rw [hz] at Fb;obtain ⟨_,h1,h2,_⟩:=Eu hz;simp only at Fb⊢;refine ⟨hs,?_,⟨λe he=>hr.all e (Fb he),?_⟩,λe he=>hb e (Fb he),λe he f hf=> ?_⟩
  ·unfold AB at h2;rw [List.length_take];omega
  ·exact hr.inc.sublist ((List.take_sublist _ _).trans List.filter_sublist)
  ·have g1:=(AT.1 (sh he)).2;have g2:=(AT.1 (sh hf)).2;unfold ub at g1 g2;simp only [BY,decide_eq_true_eq] at g1 g2;exact ⟨by rw [g1.1,g2.1],by rw [g1.2,g2.2]⟩
def n9 (a:aj)(view:Int):aj×ae×Bool:=if view<=a.View\/100000<view then (a,⟨0,0,false,0,[],[]⟩,false) else (⟨a.S,a.Me,view,a.Has,a.At,a.Value,a.Proof,⟨[]⟩⟩,⟨a.Me,view,a.Has,a.At,a.Value,a.Proof⟩,true)
theorem or_some {p q:Prop}[Decidable p][Decidable q]:(if p then some true else some (decide q):Option Bool)=some (decide (p\/q)):=by by_cases hp:p<;>by_cases hq:q<;>simp [hp,hq]
theorem afa (a:aj)(view:Int):mV a view=some (n9 a view):=by
 unfold mV n9;rw [or_some];by_cases h:view<=a.View\/100000<view
 ·simp only [h,decide_true,ar,if_true]
 ·simp only [h,decide_false,ar,fj,if_false];rfl
theorem UY (a:aj)(view:Int):yn (sr a) view=some (sr (n9 a view).1,(n9 a view).2):=by
 unfold yn n9;have e:(sr a).View=a.View:=rfl;rw [e,or_some];by_cases h:view<=a.View\/100000<view
 ·simp only [h,decide_true,ar,if_true]
 ·simp only [h,decide_false,ar,fj,if_false];rfl
def afb (a:aj)(view:Int)(value:List UInt8):Prop:=view=a.View/\ ¬(a.Has=true/\a.At=view)/\value.length<=6000
instance (a:aj) (view:Int) (value:List UInt8):Decidable (afb a view value):=inferInstanceAs (Decidable (_/\_/\_))
def eR (a:aj)(view:Int)(value:List UInt8)(ok:Bool):aj×aa×Bool:=if ok=true then (⟨a.S,a.Me,a.View,true,view,value,a.Proof,a.bI⟩,⟨a.Me,view,value⟩,true) else (a,⟨0,0,[]⟩,false)
theorem WW (a:aj)(view:Int)(value:List UInt8)(jE:List ae)(hp: ∀r∈jE,r.Proof.length<2^32)(hl:jE.length<2^32): ∃ok:Bool,fH a view value jE=some (eR a view value ok)/\sP (sr a) view value jE=some (sr (eR a view value ok).1,(eR a view value ok).2)/\ (ok=true->afb a view value/\(¬(view=0/\jE=[])->ia (vF a.S) view jE value=some true)):=by
 obtain ⟨b,e1,e2⟩:=RU a.S view jE value hp hl;unfold fH sP;have c0:(sr a).View=a.View:=rfl;have c1:(sr a).Has=a.Has:=rfl;have c2:(sr a).At=a.At:=rfl;have c3:(sr a).S=vF a.S:=rfl;rw [c0,c1,c2,c3];have wk:(if view=0 then some (decide ((jE.length:Int)=0)) else some false:Option Bool)=some (decide (view=0/\jE=[])):=by
  by_cases g1:view=0
  ·by_cases g2:jE=[]
   ·simp [g1,g2]
   ·have: ¬((jE.length:Int)=0):=by intro h;exact g2 (List.eq_nil_of_length_eq_zero (by omega))
    simp [g1,g2,this]
  ·simp [g1]
 rw [wk];simp only [ar];by_cases g1:view=a.View;rotate_left
 ·exact ⟨false,by simp [g1,eR],by simp [g1,eR],λh=>(by cases h)⟩
 by_cases g3:(6000:Int)<(value.length:Int)
 ·refine ⟨false,?_,?_,λh=>(by cases h)⟩
  ·by_cases g2:a.At=view<;>cases a.Has<;>simp [g1,g2,g3,eR]
  ·by_cases g2:a.At=view<;>cases a.Has<;>simp [g1,g2,g3,eR]
 have hv:value.length<=6000:=by omega
 by_cases g2:a.Has=true/\a.At=view
 ·exact ⟨false,by simp [g1,g2.1,g2.2,eR],by simp [g1,g2.1,g2.2,eR],λh=>(by cases h)⟩
 have hA:(if !decide (view=a.View) then some true else if a.Has then (if a.At=view then some true else some (decide ((6000:Int)<(value.length:Int)))) else some (decide ((6000:Int)<(value.length:Int))):Option Bool)=some false:=by
  cases hh:a.Has with
  |false=>simp [g1];omega
  |true=>have: ¬a.At=view:=λh=>g2 ⟨hh,h⟩;rw [g1] at this;simp [g1,this];omega
 rw [hA];simp only [ar,fj,if_false];by_cases g4:view=0/\jE=[]
 ·refine ⟨true,?_,?_,λ_=>⟨⟨g1,g2,hv⟩,λh=>absurd g4 h⟩⟩
  ·simp [g4,eR]
  ·have:(if !decide (view=a.View) then some true else if a.Has then (if a.At=view then some true else if (6000:Int)<(value.length:Int) then some true else if !(decide (view=0/\jE=[])) then bd (ia (vF a.S) view jE value) λrA=>some (!rA) else some false) else if (6000:Int)<(value.length:Int) then some true else if !(decide (view=0/\jE=[])) then bd (ia (vF a.S) view jE value) λrA=>some (!rA) else some false:Option Bool)=some false:=by
    rw [decide_eq_true g4];cases hh:a.Has with
    |false=>simp [g1,g3]
    |true=>have: ¬a.At=view:=λh=>g2 ⟨hh,h⟩;rw [g1] at this;simp [g1,this,g3]
   rw [this];simp only [ar,fj,if_false,eR,if_true];rfl
 ·refine ⟨b,?_,?_,λh=>⟨⟨g1,g2,hv⟩,λ_=>by rw [e2,h]⟩⟩
  ·simp only [g4,decide_false,fj,if_false,e1,ar];cases b<;>rfl
  ·have:(if !decide (view=a.View) then some true else if a.Has then (if a.At=view then some true else if (6000:Int)<(value.length:Int) then some true else if !(decide (view=0/\jE=[])) then bd (ia (vF a.S) view jE value) λrA=>some (!rA) else some false) else if (6000:Int)<(value.length:Int) then some true else if !(decide (view=0/\jE=[])) then bd (ia (vF a.S) view jE value) λrA=>some (!rA) else some false:Option Bool)=some (!b):=by
    rw [decide_eq_false g4,e2];cases hh:a.Has with
    |false=>simp [g1,g3]
    |true=>have: ¬a.At=view:=λh=>g2 ⟨hh,h⟩;rw [g1] at this;simp [g1,this,g3]
   rw [this];cases b<;>rfl
def kU (a:aj)(v:aa):aj×List aa×Bool:=if tF a.S<=v.By\/v.View≠a.View then (a,[],false)
 else if¬rc v\/(pN a.S (ek a.bI.L v).1).2=false\/a.View<=(PV a.Proof).1 then (⟨a.S,a.Me,a.View,a.Has,a.At,a.Value,a.Proof,⟨(ek a.bI.L v).1⟩⟩,[],false)
 else (⟨a.S,a.Me,a.View,a.Has,a.At,a.Value,(pN a.S (ek a.bI.L v).1).1,⟨(ek a.bI.L v).1⟩⟩,(pN a.S (ek a.bI.L v).1).1,true)
theorem MF {a:aj}{v:aa}(hr:iZ a)(h1:v.By<tF a.S)(h2:v.View=a.View): ∀e∈(ek a.bI.L v).1,e.By<tF a.S/\e.View=a.View:=by
 intro e he;unfold ek at he;split at he
 ·rcases (BJ hr.tG.inc).1 he with rfl|⟨he,_⟩
  ·exact ⟨h1,h2⟩
  ·exact hr.all e he
 ·exact hr.all e he
theorem WX {a:aj}{v:aa}(hr:iZ a)(h1:v.By<tF a.S)(h2:v.View=a.View)(hm:(pN a.S (ek a.bI.L v).1).2=true): ∃h:0<(pN a.S (ek a.bI.L v).1).1.length,(pN a.S (ek a.bI.L v).1).1[0].View=a.View:=by have hp:=ID hr.sz (vD hr.tG) (λe he=>(MF hr h1 h2 e he).1) hm;have hso:=(eZ a.S).1 hr.sz;have hl:=hp.len;refine ⟨by omega,?_⟩;exact (MF hr h1 h2 _ (HN (List.getElem_mem _))).2
theorem YR {a:aj}(hr:iZ a)(hl:a.bI.L.length<2^31)(v:aa):lK a v=some (kU a v)/\Bc (sr a) v=some (sr (kU a v).1,(kU a v).2):=by
 have hs:=hr.sz;have EX:=yJ (L:=a.bI.L) (a:=v);have ev: ∀t:az,iU t v=iU ⟨t.L⟩ v:=λ_=>rfl;unfold lK Bc kU;have c3:(sr a).S=vF a.S:=rfl;have c4:(sr a).View=a.View:=rfl;have c5:(sr a).bI=⟨a.bI.L⟩:=rfl;have c6:(sr a).Proof=a.Proof:=rfl;rw [c3,c4,c5,c6,vE hs,uc hs];simp only [ar,zX,UR,wZ,uC];rw [ev a.bI,xa hr.tG.inc (by omega),CC hr.tG.inc (by omega)];simp only [ar];have ayR:(!decide (v.View=a.View))=decide (v.View≠a.View):=by by_cases h:v.View=a.View<;>simp [h]
 rw [ayR,or_some];show _/\_;by_cases g:tF a.S<=v.By\/v.View≠a.View
 ·have g':3 *a.S.F+2 *a.S.T+1<=v.By\/v.View≠a.View:=g;rw [if_pos g];refine ⟨?_,?_⟩
  ·rw [decide_eq_true g'];simp
  ·rw [decide_eq_true g'];by_cases hm:rc v<;>simp [hm]
 have g': ¬(3 *a.S.F+2 *a.S.T+1<=v.By\/v.View≠a.View):=g;rw [if_neg g];have gb:v.By<tF a.S:=by unfold tF;omega
 have gv:v.View=a.View:=by
  by_cases h:v.View=a.View
  ·exact h
  ·exact absurd (.inr h) g
 rw [decide_eq_false g'];have sB:=vD (a:=v) hr.tG;rw [RV hs (λe he=>(sB.all e he).2.1) (by omega),WV hs (by omega)];simp only [ar,fj,if_false];by_cases hm:rc v;rotate_left
 ·have ayS:(ek a.bI.L v).1=a.bI.L:=by unfold ek;rw [if_neg (λh=>hm h.1)]
  simp only [hm,decide_false,IN,if_true,ar,ayS,not_false_eq_true,true_or];exact ⟨trivial,trivial⟩
 simp only [hm,decide_true,AI,fj,if_false,not_true_eq_false,false_or,ar];cases hk:(pN a.S (ek a.bI.L v).1).2 with
 |false=>simp only [IN,if_true,ar,true_or];exact ⟨trivial,rfl⟩
 |true=>
  obtain ⟨h0,h1⟩:=WX hr gb gv hk;simp only [AI,fj,if_false,ar,iK h0,h1,false_or,Bool.true_eq_false];by_cases h2:a.View<=(PV a.Proof).1
  ·simp only [h2,decide_true,if_true];exact ⟨trivial,rfl⟩
  ·simp only [h2,decide_false,fj,if_false];exact ⟨trivial,rfl⟩
end Dn.S
