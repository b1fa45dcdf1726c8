import Derived.Test.YtmdlghpieagfhaaGreatDnYT
import Derived.Test.YtmdlghpieagfhaaGreatDnD
/- Tallies: the functions on typed values are what the document. Conditions: none. -/
set_option linter.unusedVariables false
set_option linter.unusedSimpArgs false
open List renaming mem_iff_getElem→cV,getElem_mem→AI,length_take→AT,length_drop→BY,getElem?_append_right→IT,mem_singleton→No,getElem_drop→OF,getElem_take→aau,pairwise_append→aaJ,length_append→aaP,append_assoc→abB,length_cons→abC,length_nil→abE,mem_append→abF
open Bool renaming false_eq_true→sh,not_true→aaK,eq_false_iff→abz,not_false→abG
open Nat renaming lt_trichotomy→aaU,add_zero→abJ
open Go Dn
namespace Dn.S
theorem ab5 (x:Int):nw x=some false:=by simp [nw]
theorem KC (x y:Int):kK x y=some (Pb x y):=by
 simp only [kK,ab5,au,sh,if_false,Pb];split
 ·rfl
 ·split<;>rfl
abbrev vk (e:aa):Int:=e.By
def tw (a:aa):Prop:=0<=a.By/\0<=a.View/\a.View<=100000/\a.Value.length<=6000
instance (a:aa):Decidable (tw a):=by unfold tw;infer_instance
theorem vW (a:aa):kJ a=some (decide (tw a)):=by unfold kJ tw;by_cases h1:0<=a.By<;>by_cases h2:0<=a.View<;>by_cases h3:a.View<=100000<;>simp [h1,h2,h3];all_goals omega
structure qm (L:List aa):Prop where
 all: ∀e∈L,tw e
 inc:oh vk L
theorem Ng {α:Type}{key:α->Int}{L:List α}(h: ∀j (hj:j+1<L.length),key L[j]<key L[j+1]):oh key L:=by
 unfold oh;rw [List.pairwise_iff_getElem];intro i j hi hj hij;induction j with
 |zero=>omega
 |succ j ih=>
  have h1:=h j hj;by_cases asl:i=j
  ·subst asl;exact h1
  ·exact Int.lt_trans (ih (by omega) (by omega)) h1
def anK (L:List aa)(k:Nat):Prop:= ∃hk:k<L.length,tw L[k]/\(0<k->(L[k-1]'(by omega)).By<L[k].By)
theorem G0 {L:List aa}:(∀k,k<L.length->anK L k)↔qm L:=by
 constructor
 ·intro h;refine ⟨λe he=> ?_,Ng λj hj=> ?_⟩
  ·obtain ⟨k,hk,rfl⟩:=cV.1 he;exact (h k hk).2.1
  ·have:=(h (j+1) hj).2.2 (by omega);simpa using this
 ·intro h k hk;exact ⟨hk,h.all _ (AI hk),λh0=>h.inc.lt hk (by omega)⟩
theorem L0 (L:List aa)(hl:L.length<2^60):aK (r6 ⟨L⟩) λb=>b=true↔qm L:=by
 unfold r6;refine aK.bd (RJ L.length (anK L) false (λk hk _=> ?_) ?_) ?_
 ·unfold rq;simp only [show ((k:Int)<(L.length:Int)) by omega,if_true,bB hk,vW,au];rw [wrap64 (x:=(k:Int)+1) (by omega) (by omega),show (k:Int)+1=((k+1:Nat):Int) by omega];by_cases hm:tw L[k]
  ·simp only [hm,decide_true,aaK,sh,if_false];by_cases g5:k=0
   ·subst g5;simp only [show¬((0:Int)<((0:Nat):Int)) by omega,if_false,au,sh];exact ⟨λ_=>trivial,λh=>absurd ⟨hk,hm,by omega⟩ h⟩
   ·have hk1:k-1<L.length:=by omega
    rw [wrap64 (x:=(k:Int)-1) (by omega) (by omega),show ((k:Int)-1)=((k-1:Nat):Int) by omega];simp only [show ((0:Int)<(k:Int)) by omega,if_true,bB hk1,bB hk,au];by_cases g6:L[k].By<=L[k-1].By
    ·simp only [g6,decide_true,if_true];exact ⟨λ⟨_,_,h⟩=>by have:=h (by omega);omega,λ_=>trivial⟩
    ·simp only [g6,decide_false,sh,if_false];exact ⟨λ_=>trivial,λh=>absurd ⟨hk,hm,λ_=>by omega⟩ h⟩
  ·simp only [hm,decide_false,abG,if_true,au];exact ⟨λ⟨_,h,_⟩=>absurd h hm,λ_=>trivial⟩
 ·unfold rq;simp only [show¬((L.length:Int)<(L.length:Int)) by omega,if_false]
 ·rintro r (⟨rfl,h⟩|⟨rfl,k,hk,h⟩)
  ·exact .mk ⟨λ_=>G0.1 h,λ_=>rfl⟩
  ·exact .mk ⟨λh=>(by cases h),λhr=>absurd (G0.2 hr k hk) h⟩
theorem ajd (x y:aa):((decide (x.By=y.By))&&((decide (x.View=y.View))&&(decide (x.Value=y.Value))))=decide (x=y):=by cases x;cases y;rw [Bool.eq_iff_iff];simp
theorem ab6 (a b:List aa)(hl:a.length<2^60):gn a b=some (decide (a=b)):=by
 unfold gn;by_cases h:a.length=b.length
 ·simp only [show ((a.length:Int)=(b.length:Int)) by omega,decide_true,aaK,sh,if_false];have Ky:Loop (fh a b) 0=some (if a=b then .inl () else .inr false):=by
   refine XT h (λk ha hb=> ?_) ?_
   ·unfold fh;simp only [show ((k:Int)<(a.length:Int)) by omega,if_true,bB ha,bB hb,ajd];rw [wrap64 (by omega) (by omega),show (k:Int)+1=((k+1:Nat):Int) by omega];by_cases he:a[k]=b[k]<;>simp [he]
   ·unfold fh;simp only [show¬((a.length:Int)<(a.length:Int)) by omega,if_false]
  rw [Ky];by_cases he:a=b<;>simp [he]
 ·simp only [show¬((a.length:Int)=(b.length:Int)) by omega,decide_false,abG,if_true];rw [decide_eq_false];intro he;exact h (by rw [he])
theorem Pc (a b:List aa)(hl:a.length<2^60):ur a b=some (decide (a=b)):=by unfold ur;rw [ab6 a b hl];rfl
def KD (L:List aa)(a:aa):Bool:=L.any λx=>decide (x.By=a.By)&&decide (a.View<=x.View)
def tx (L:List aa)(a:aa):List aa:=L.take (qH vk L a.By)++[a]++L.drop (qH vk L a.By+if nR vk L a.By then 1 else 0)
def cL (L:List aa)(a:aa):List aa×Bool:=if tw a/\KD L a=false then (tx L a,true) else (L,false)
theorem Pd {L:List aa}{a:aa}(hs:oh vk L):KD L a=true↔ ∃h:qH vk L a.By<L.length,L[qH vk L a.By].By=a.By/\a.View<=L[qH vk L a.By].View:=by
 unfold KD;rw [List.any_eq_true];constructor
 ·rintro ⟨x,hx,hh⟩;simp only [Bool.and_eq_true,decide_eq_true_eq] at hh;have hk:nR vk L a.By=true:=xB.2 ⟨x,hx,hh.1⟩;obtain ⟨h,he⟩:=(hs.has a.By).1 hk;refine ⟨h,he,?_⟩;obtain ⟨k,hkl,rfl⟩:=cV.1 hx;have:k=qH vk L a.By:=by
   rcases aaU k (qH vk L a.By) with h1|h1|h1
   ·have:=hs.lt h h1;have:=hh.1;simp only [vk] at *;omega
   ·exact h1
   ·have:=hs.lt hkl h1;have:=hh.1;simp only [vk] at *;omega
  subst this;exact hh.2
 ·rintro ⟨h,h1,h2⟩;exact ⟨_,AI h,by simp [h1,h2]⟩
theorem ab7 {L:List aa}{s:Int}(hs:oh vk L)(hl:L.length<2^60):cz L s kY=some ((qH vk L s:Int),nR vk L s):=by have:cz L s kY=bsearch L s kY:=rfl;rw [this];exact Kx hs hl λa=>by unfold kY;rw [KC];rfl
theorem vX {L:List aa}{a:aa}(hs:oh vk L)(hl:L.length<2^32):jb ⟨L⟩ a=some (⟨(cL L a).1⟩,(cL L a).2):=by
 unfold jb cL;rw [vW];by_cases hm:tw a;rotate_left
 ·simp [hm]
 simp only [au,hm,decide_true,aaK,sh,if_false,ab7 hs (by omega)];have hle:=A6 (key:=vk) L a.By;cases hh:nR vk L a.By with
 |false=>
  have ho:KD L a=false:=by rw [abz];intro ho;obtain ⟨h,he,_⟩:=(Pd hs).1 ho;have:=(hs.has a.By).2 ⟨h,he⟩;rw [hh] at this;cases this
  simp only [sh,if_false,au,ho,and_self,if_true];rw [gO (by omega)];simp only [au];have:=Dg (key:=vk) (L:=L) (a:=a) (by':=32) (by omega);rw [this];simp only [au,tx,Kz,hh,sh,if_false,abJ]
 |true=>
  obtain ⟨h,he⟩:=(hs.has a.By).1 hh;simp only [if_true,bB h,au];by_cases hv:a.View<=L[qH vk L a.By].View
  ·have ho:KD L a=true:=(Pd hs).2 ⟨h,he,hv⟩;simp [hv,ho]
  ·have ho:KD L a=false:=by rw [abz];intro ho;obtain ⟨_,_,h2⟩:=(Pd hs).1 ho;exact hv h2
   simp only [hv,decide_false,sh,if_false,ho,and_self,if_true];rw [gO (by omega)];simp only [au,bB h,Int.toNat_natCast];congr 3;unfold tx;rw [hh];apply List.ext_getElem?;intro i;rw [List.getElem?_set];have cJ:(L.take (qH vk L a.By)).length=qH vk L a.By:=by rw [AT];omega
   rcases aaU i (qH vk L a.By) with hi|hi|hi
   ·rw [if_neg (by omega),abB,List.getElem?_append_left (by omega),List.getElem?_take_of_lt hi]
   ·subst hi;rw [if_pos rfl,abB,IT (by omega),cJ];simp [h]
   ·rw [if_neg (by omega),IT (by simp;omega)];simp only [aaP,cJ,abC,abE,if_true,List.getElem?_drop];congr 1;omega
theorem ab8 {L:List aa}{a:aa}(hs:oh vk L):oh vk (tx L a):=by
 obtain ⟨h1,h2⟩:=hs.lb a.By;unfold tx oh;have hd: ∀x∈L.drop (qH vk L a.By+if nR vk L a.By then 1 else 0),a.By<x.By:=by
  intro x hx;obtain ⟨k,hk,rfl⟩:=cV.1 hx;rw [BY] at hk;rw [OF];have h3:=h2 (qH vk L a.By+(if nR vk L a.By then 1 else 0)+k) (by omega) (by omega);rcases Bool.eq_false_or_eq_true (nR vk L a.By) with hh|hh
  ·obtain ⟨g1,g2⟩:=(hs.has a.By).1 hh;simp only [hh,if_true] at hk⊢;have:=hs.lt (i:=qH vk L a.By) (j:=qH vk L a.By+1+k) (by omega) (by omega);simp only [vk] at *;omega
  ·simp only [hh,sh,if_false,abJ] at hk h3⊢;have di:(L[qH vk L a.By+k]).By≠a.By:=λhe=>by have:=xB.2 ⟨_,AI (by omega:qH vk L a.By+k<L.length),he⟩;rw [hh] at this;cases this
   simp only [vk] at *;omega
 have ht: ∀x∈L.take (qH vk L a.By),x.By<a.By:=by intro x hx;obtain ⟨k,hk,rfl⟩:=cV.1 hx;rw [AT] at hk;rw [aau];exact h1 k (by omega) (by omega)
 rw [aaJ,aaJ];refine ⟨⟨hs.sublist (List.take_sublist _ _),List.pairwise_singleton _ _,λx hx y hy=>by rw [No.1 hy];exact ht x hx⟩,hs.sublist (List.drop_sublist _ _),λx hx y hy=> ?_⟩;rcases abF.1 hx with hx|hx
 ·exact Int.lt_trans (ht x hx) (hd y hy)
 ·rw [No.1 hx];exact hd y hy
theorem sn {L:List aa}{a x:aa}(hs:oh vk L):x∈tx L a↔x=a\/(x∈L/\x.By≠a.By):=by
 obtain ⟨h1,h2⟩:=hs.lb a.By;unfold tx;simp only [abF,No];have CY: ∀x,x∈L/\x.By≠a.By↔x∈L.take (qH vk L a.By)\/x∈L.drop (qH vk L a.By+if nR vk L a.By then 1 else 0):=by
  intro x;constructor
  ·rintro ⟨hx,di⟩;obtain ⟨k,hk,rfl⟩:=cV.1 hx;by_cases cJ:k<qH vk L a.By
   ·exact .inl (cV.2 ⟨k,by rw [AT];omega,by rw [aau]⟩)
   ·right;have hgt:qH vk L a.By+(if nR vk L a.By then 1 else 0)<=k:=by
     cases hh:nR vk L a.By with
     |false=>simp;omega
     |true=>
      obtain ⟨g1,g2⟩:=(hs.has a.By).1 hh;simp only [if_true];by_cases PH:k=qH vk L a.By
      ·subst PH;exact absurd g2 di
      ·omega
    exact cV.2 ⟨k-(qH vk L a.By+if nR vk L a.By then 1 else 0),by rw [BY];omega,by rw [OF];congr 1;omega⟩
  ·rintro (hx|hx)
   ·obtain ⟨k,hk,rfl⟩:=cV.1 hx;rw [AT] at hk;rw [aau];refine ⟨AI _,?_⟩;have:=h1 k (by omega) (by omega);simp only [vk] at *;omega
   ·obtain ⟨k,hk,rfl⟩:=cV.1 hx;rw [BY] at hk;rw [OF];refine ⟨AI _,λhe=> ?_⟩;have hh:nR vk L a.By=true:=xB.2 ⟨_,AI (by omega),he⟩;obtain ⟨g1,g2⟩:=(hs.has a.By).1 hh;simp only [hh,if_true] at hk he;have:=hs.lt (i:=qH vk L a.By) (j:=qH vk L a.By+1+k) (by omega) (by omega);simp only [vk] at *;omega
 rw [CY];constructor
 ·rintro ((h|h)|h)
  ·exact .inr (.inl h)
  ·exact .inl h
  ·exact .inr (.inr h)
 ·rintro (h|h|h)
  ·exact .inl (.inr h)
  ·exact .inl (.inl h)
  ·exact .inr h
theorem oW {L:List aa}{a:aa}(h:qm L):qm (cL L a).1:=by
 unfold cL;split
 ·rename_i hc;refine ⟨λe he=> ?_,ab8 h.inc⟩;rcases (sn h.inc).1 he with rfl|⟨he,_⟩
  ·exact hc.1
  ·exact h.all e he
 ·exact h
theorem RN {L:List aa}{a:aa}:(cL L a).1.length<=L.length+1:=by
 unfold cL;split
 ·simp only [tx,aaP,AT,BY,abC,abE];have:=A6 (key:=vk) L a.By;omega
 ·simp
end Dn.S
