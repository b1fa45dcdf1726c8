import Derived.Test.YtmdlghpieagfhaaGreatDnYT
import Derived.Test.YtmdlghpieagfhaaGreatDnC
/-
  Tallies: the functions on typed values are what the document says. Conditions: none.
-/
set_option linter.unusedVariables false
set_option linter.unusedSimpArgs false
open Bool renaming false_eq_true→eJ,not_true→OF,not_false→aaa,eq_false_iff→aaD
open List renaming mem_iff_getElem→sh,getElem_mem→AI,length_take→AT,length_drop→BY,getElem?_append_right→IN,mem_singleton→IS,getElem_drop→IT,getElem_take→No,pairwise_append→aah,length_append→aai,append_assoc→aaL,length_cons→aaN,length_nil→aaR,mem_append→aaS
open Nat renaming lt_trichotomy→aas,add_zero→aaT
open Go Dn
namespace Dn.S
theorem YZ (x:Int):nB x=some false:=by simp [nB]
theorem JO (x y:Int):kF x y=some (NU x y):=by
 simp only [kF,YZ,ap,eJ,if_false,NU];split
 ·rfl
 ·split<;>rfl
abbrev vk (e:aa):Int:=e.By
def sF (a:aa):Prop:=0<=a.By/\0<=a.View/\a.View<=100000/\a.Value.length<=6000
instance (a:aa):Decidable (sF a):=by unfold sF;infer_instance
theorem xA (a:aa):yh a=some (decide (sF a)):=by unfold yh sF;by_cases h1:0<=a.By<;>by_cases h2:0<=a.View<;>by_cases h3:a.View<=100000<;>simp [h1,h2,h3];all_goals omega
theorem vQ (a:aa):lK a=some (decide (sF a)):=xA a
structure qz (L:List aa):Prop where
 all: ∀e∈L,sF e
 inc:pc vk L
theorem Vi {α:Type}{key:α->Int}{L:List α}(h: ∀j (hj:j+1<L.length),key L[j]<key L[j+1]):pc key L:=by
 unfold pc;rw [List.pairwise_iff_getElem];intro i j hi hj hij;induction j with
 |zero=>omega
 |succ j ih=>
  have h1:=h j hj;by_cases aoe:i=j
  ·subst aoe;exact h1
  ·exact Int.lt_trans (ih (by omega) (by omega)) h1
def afr (L:List aa)(k:Nat):Prop:= ∃hk:k<L.length,sF L[k]/\(0<k->(L[k-1]'(by omega)).By<L[k].By)
theorem pB {L:List aa}:(∀k,k<L.length->afr L k)↔qz L:=by
 constructor
 ·intro h;refine ⟨λe he=> ?_,Vi λj hj=> ?_⟩
  ·obtain ⟨k,hk,rfl⟩:=sh.1 he;exact (h k hk).2.1
  ·have:=(h (j+1) hj).2.2 (by omega);simpa using this
 ·intro h k hk;exact ⟨hk,h.all _ (AI hk),λh0=>h.inc.lt hk (by omega)⟩
theorem P8 (L:List aa)(hl:L.length<2^60):aL (Bb ⟨L⟩) λb=>b=true↔qz L:=by
 unfold Bb;refine aL.bd (xz L.length (afr L) false (λk hk _=> ?_) ?_) ?_
 ·unfold Aa;simp only [show ((k:Int)<(L.length:Int)) by omega,if_true,bh hk,xA,ap];rw [wrap64 (x:=(k:Int)+1) (by omega) (by omega),show (k:Int)+1=((k+1:Nat):Int) by omega];by_cases hm:sF L[k]
  ·simp only [hm,decide_true,OF,eJ,if_false];by_cases g5:k=0
   ·subst g5;simp only [show¬((0:Int)<((0:Nat):Int)) by omega,if_false,ap,eJ];exact ⟨λ_=>trivial,λh=>absurd ⟨hk,hm,by omega⟩ h⟩
   ·have Xx:k-1<L.length:=by omega
    rw [wrap64 (x:=(k:Int)-1) (by omega) (by omega),show ((k:Int)-1)=((k-1:Nat):Int) by omega];simp only [show ((0:Int)<(k:Int)) by omega,if_true,bh Xx,bh hk,ap];by_cases g6:L[k].By<=L[k-1].By
    ·simp only [g6,decide_true,if_true];exact ⟨λ⟨_,_,h⟩=>by have:=h (by omega);omega,λ_=>trivial⟩
    ·simp only [g6,decide_false,eJ,if_false];exact ⟨λ_=>trivial,λh=>absurd ⟨hk,hm,λ_=>by omega⟩ h⟩
  ·simp only [hm,decide_false,aaa,if_true,ap];exact ⟨λ⟨_,h,_⟩=>absurd h hm,λ_=>trivial⟩
 ·unfold Aa;simp only [show¬((L.length:Int)<(L.length:Int)) by omega,if_false]
 ·rintro r (⟨rfl,h⟩|⟨rfl,k,hk,h⟩)
  ·exact .mk ⟨λ_=>pB.1 h,λ_=>rfl⟩
  ·exact .mk ⟨λh=>(by cases h),λhr=>absurd (pB.2 hr k hk) h⟩
theorem K3 (L:List aa)(hl:L.length<2^60):aL (rX ⟨L⟩) λb=>b=true↔qz L:=by
 unfold rX;refine aL.bd (xz L.length (afr L) false (λk hk _=> ?_) ?_) ?_
 ·unfold rv;simp only [show ((k:Int)<(L.length:Int)) by omega,if_true,bh hk,vQ,ap];rw [wrap64 (x:=(k:Int)+1) (by omega) (by omega),show (k:Int)+1=((k+1:Nat):Int) by omega];by_cases hm:sF L[k]
  ·simp only [hm,decide_true,OF,eJ,if_false];by_cases g5:k=0
   ·subst g5;simp only [show¬((0:Int)<((0:Nat):Int)) by omega,if_false,ap,eJ];exact ⟨λ_=>trivial,λh=>absurd ⟨hk,hm,by omega⟩ h⟩
   ·have Xx:k-1<L.length:=by omega
    rw [wrap64 (x:=(k:Int)-1) (by omega) (by omega),show ((k:Int)-1)=((k-1:Nat):Int) by omega];simp only [show ((0:Int)<(k:Int)) by omega,if_true,bh Xx,bh hk,ap];by_cases g6:L[k].By<=L[k-1].By
    ·simp only [g6,decide_true,if_true];exact ⟨λ⟨_,_,h⟩=>by have:=h (by omega);omega,λ_=>trivial⟩
    ·simp only [g6,decide_false,eJ,if_false];exact ⟨λ_=>trivial,λh=>absurd ⟨hk,hm,λ_=>by omega⟩ h⟩
  ·simp only [hm,decide_false,aaa,if_true,ap];exact ⟨λ⟨_,h,_⟩=>absurd h hm,λ_=>trivial⟩
 ·unfold rv;simp only [show¬((L.length:Int)<(L.length:Int)) by omega,if_false]
 ·rintro r (⟨rfl,h⟩|⟨rfl,k,hk,h⟩)
  ·exact .mk ⟨λ_=>pB.1 h,λ_=>rfl⟩
  ·exact .mk ⟨λh=>(by cases h),λhr=>absurd (pB.2 hr k hk) h⟩
theorem afs (x y:aa):((decide (x.By=y.By))&&((decide (x.View=y.View))&&(decide (x.Value=y.Value))))=decide (x=y):=by cases x;cases y;rw [Bool.eq_iff_iff];simp
theorem Y0 (a b:List aa)(hl:a.length<2^60):gf a b=some (decide (a=b)):=by
 unfold gf;by_cases h:a.length=b.length
 ·simp only [show ((a.length:Int)=(b.length:Int)) by omega,decide_true,OF,eJ,if_false];have xy:Loop (fc a b) 0=some (if a=b then .inl () else .inr false):=by
   refine Vh h (λk ha hb=> ?_) ?_
   ·unfold fc;simp only [show ((k:Int)<(a.length:Int)) by omega,if_true,bh ha,bh hb,afs];rw [wrap64 (by omega) (by omega),show (k:Int)+1=((k+1:Nat):Int) by omega];by_cases he:a[k]=b[k]<;>simp [he]
   ·unfold fc;simp only [show¬((a.length:Int)<(a.length:Int)) by omega,if_false]
  rw [xy];by_cases he:a=b<;>simp [he]
 ·simp only [show¬((a.length:Int)=(b.length:Int)) by omega,decide_false,aaa,if_true];rw [decide_eq_false];intro he;exact h (by rw [he])
theorem lm (a b:List aa)(hl:a.length<2^60):iT a b=some (decide (a=b)):=by unfold iT;rw [Y0 a b hl];rfl
def BF (L:List aa)(a:aa):Bool:=L.any λx=>decide (x.By=a.By)&&decide (a.View<=x.View)
def sq (L:List aa)(a:aa):List aa:=L.take (gK vk L a.By)++[a]++L.drop (gK vk L a.By+if mG vk L a.By then 1 else 0)
def ia (L:List aa)(a:aa):List aa×Bool:=if sF a/\BF L a=false then (sq L a,true) else (L,false)
theorem yG {L:List aa}{a:aa}(hs:pc vk L):BF L a=true↔ ∃h:gK vk L a.By<L.length,L[gK vk L a.By].By=a.By/\a.View<=L[gK vk L a.By].View:=by
 unfold BF;rw [List.any_eq_true];constructor
 ·rintro ⟨x,hx,hh⟩;simp only [Bool.and_eq_true,decide_eq_true_eq] at hh;have hk:mG vk L a.By=true:=uF.2 ⟨x,hx,hh.1⟩;obtain ⟨h,he⟩:=(hs.has a.By).1 hk;refine ⟨h,he,?_⟩;obtain ⟨k,hkl,rfl⟩:=sh.1 hx;have:k=gK vk L a.By:=by
   rcases aas k (gK vk L a.By) with h1|h1|h1
   ·have:=hs.lt h h1;have:=hh.1;simp only [vk] at *;omega
   ·exact h1
   ·have:=hs.lt hkl h1;have:=hh.1;simp only [vk] at *;omega
  subst this;exact hh.2
 ·rintro ⟨h,h1,h2⟩;exact ⟨_,AI h,by simp [h1,h2]⟩
theorem Y1 {L:List aa}{s:Int}(hs:pc vk L)(hl:L.length<2^60):cC L s kQ=some ((gK vk L s:Int),mG vk L s):=by have:cC L s kQ=bsearch L s kQ:=rfl;rw [this];exact JJ hs hl λa=>by unfold kQ;rw [JO];rfl
theorem vR {L:List aa}{a:aa}(hs:pc vk L)(hl:L.length<2^32):iR ⟨L⟩ a=some (⟨(ia L a).1⟩,(ia L a).2):=by
 unfold iR ia;rw [vQ];by_cases hm:sF a;rotate_left
 ·simp [hm]
 simp only [ap,hm,decide_true,OF,eJ,if_false,Y1 hs (by omega)];have hle:=wE (key:=vk) L a.By;cases hh:mG vk L a.By with
 |false=>
  have ho:BF L a=false:=by rw [aaD];intro ho;obtain ⟨h,he,_⟩:=(yG hs).1 ho;have:=(hs.has a.By).2 ⟨h,he⟩;rw [hh] at this;cases this
  simp only [eJ,if_false,ap,ho,and_self,if_true];rw [nL (by omega)];simp only [ap];have:=JL (key:=vk) (L:=L) (a:=a) (by':=32) (by omega);rw [this];simp only [ap,sq,JK,hh,eJ,if_false,aaT]
 |true=>
  obtain ⟨h,he⟩:=(hs.has a.By).1 hh;simp only [if_true,bh h,ap];by_cases hv:a.View<=L[gK vk L a.By].View
  ·have ho:BF L a=true:=(yG hs).2 ⟨h,he,hv⟩;simp [hv,ho]
  ·have ho:BF L a=false:=by rw [aaD];intro ho;obtain ⟨_,_,h2⟩:=(yG hs).1 ho;exact hv h2
   simp only [hv,decide_false,eJ,if_false,ho,and_self,if_true];rw [nL (by omega)];simp only [ap,bh h,Int.toNat_natCast];congr 3;unfold sq;rw [hh];apply List.ext_getElem?;intro i;rw [List.getElem?_set];have dO:(L.take (gK vk L a.By)).length=gK vk L a.By:=by rw [AT];omega
   rcases aas i (gK vk L a.By) with hi|hi|hi
   ·rw [if_neg (by omega),aaL,List.getElem?_append_left (by omega),List.getElem?_take_of_lt hi]
   ·subst hi;rw [if_pos rfl,aaL,IN (by omega),dO];simp [h]
   ·rw [if_neg (by omega),IN (by simp;omega)];simp only [aai,dO,aaN,aaR,if_true,List.getElem?_drop];congr 1;omega
theorem Y2 {L:List aa}{a:aa}(hs:pc vk L):pc vk (sq L a):=by
 obtain ⟨h1,h2⟩:=hs.lb a.By;unfold sq pc;have hd: ∀x∈L.drop (gK vk L a.By+if mG vk L a.By then 1 else 0),a.By<x.By:=by
  intro x hx;obtain ⟨k,hk,rfl⟩:=sh.1 hx;rw [BY] at hk;rw [IT];have h3:=h2 (gK vk L a.By+(if mG vk L a.By then 1 else 0)+k) (by omega) (by omega);rcases Bool.eq_false_or_eq_true (mG vk L a.By) with hh|hh
  ·obtain ⟨g1,g2⟩:=(hs.has a.By).1 hh;simp only [hh,if_true] at hk⊢;have:=hs.lt (i:=gK vk L a.By) (j:=gK vk L a.By+1+k) (by omega) (by omega);simp only [vk] at *;omega
  ·simp only [hh,eJ,if_false,aaT] at hk h3⊢;have dS:(L[gK vk L a.By+k]).By≠a.By:=λhe=>by have:=uF.2 ⟨_,AI (by omega:gK vk L a.By+k<L.length),he⟩;rw [hh] at this;cases this
   simp only [vk] at *;omega
 have ht: ∀x∈L.take (gK vk L a.By),x.By<a.By:=by intro x hx;obtain ⟨k,hk,rfl⟩:=sh.1 hx;rw [AT] at hk;rw [No];exact h1 k (by omega) (by omega)
 rw [aah,aah];refine ⟨⟨hs.sublist (List.take_sublist _ _),List.pairwise_singleton _ _,λx hx y hy=>by rw [IS.1 hy];exact ht x hx⟩,hs.sublist (List.drop_sublist _ _),λx hx y hy=> ?_⟩;rcases aaS.1 hx with hx|hx
 ·exact Int.lt_trans (ht x hx) (hd y hy)
 ·rw [IS.1 hx];exact hd y hy
theorem Ay {L:List aa}{a x:aa}(hs:pc vk L):x∈sq L a↔x=a\/(x∈L/\x.By≠a.By):=by
 obtain ⟨h1,h2⟩:=hs.lb a.By;unfold sq;simp only [aaS,IS];have Cv: ∀x,x∈L/\x.By≠a.By↔x∈L.take (gK vk L a.By)\/x∈L.drop (gK vk L a.By+if mG vk L a.By then 1 else 0):=by
  intro x;constructor
  ·rintro ⟨hx,dS⟩;obtain ⟨k,hk,rfl⟩:=sh.1 hx;by_cases dO:k<gK vk L a.By
   ·exact .inl (sh.2 ⟨k,by rw [AT];omega,by rw [No]⟩)
   ·right;have VT:gK vk L a.By+(if mG vk L a.By then 1 else 0)<=k:=by
     cases hh:mG vk L a.By with
     |false=>simp;omega
     |true=>
      obtain ⟨g1,g2⟩:=(hs.has a.By).1 hh;simp only [if_true];by_cases On:k=gK vk L a.By
      ·subst On;exact absurd g2 dS
      ·omega
    exact sh.2 ⟨k-(gK vk L a.By+if mG vk L a.By then 1 else 0),by rw [BY];omega,by rw [IT];congr 1;omega⟩
  ·rintro (hx|hx)
   ·obtain ⟨k,hk,rfl⟩:=sh.1 hx;rw [AT] at hk;rw [No];refine ⟨AI _,?_⟩;have:=h1 k (by omega) (by omega);simp only [vk] at *;omega
   ·obtain ⟨k,hk,rfl⟩:=sh.1 hx;rw [BY] at hk;rw [IT];refine ⟨AI _,λhe=> ?_⟩;have hh:mG vk L a.By=true:=uF.2 ⟨_,AI (by omega),he⟩;obtain ⟨g1,g2⟩:=(hs.has a.By).1 hh;simp only [hh,if_true] at hk he;have:=hs.lt (i:=gK vk L a.By) (j:=gK vk L a.By+1+k) (by omega) (by omega);simp only [vk] at *;omega
 rw [Cv];constructor
 ·rintro ((h|h)|h)
  ·exact .inr (.inl h)
  ·exact .inl h
  ·exact .inr (.inr h)
 ·rintro (h|h|h)
  ·exact .inl (.inr h)
  ·exact .inl (.inl h)
  ·exact .inr h
theorem uG {L:List aa}{a:aa}(h:qz L):qz (ia L a).1:=by
 unfold ia;split
 ·rename_i hc;refine ⟨λe he=> ?_,Y2 h.inc⟩;rcases (Ay h.inc).1 he with rfl|⟨he,_⟩
  ·exact hc.1
  ·exact h.all e he
 ·exact h
theorem P9 {L:List aa}{a:aa}:(ia L a).1.length<=L.length+1:=by
 unfold ia;split
 ·simp only [sq,aai,AT,BY,aaN,aaR];have:=wE (key:=vk) L a.By;omega
 ·simp
end Dn.S
