import Derived.Test.YtmdlghpieagfhaaGreatDnYT
import Derived.Test.YtmdlghpieagfhaaGreatDnC
/-
  Tallies: the functions on typed values are what the document says. Conditions: none.
-/
set_option linter.unusedVariables false
set_option linter.unusedSimpArgs false
open Bool renaming false_eq_true→fj,not_true→OF,not_false→aav,eq_false_iff→aaJ
open List renaming mem_iff_getElem→sh,getElem_mem→AI,length_take→AT,length_drop→BY,getElem?_append_right→IN,mem_singleton→IS,getElem_drop→IT,getElem_take→No,pairwise_append→aay,length_append→aaH,append_assoc→aaK,length_cons→aaL,length_nil→aaM,mem_append→aaN
open Nat renaming lt_trichotomy→aaI,add_zero→aaO
open Go Dn
namespace Dn.S
theorem aeY (x:Int):nz x=some false:=by simp [nz]
theorem Mv (x y:Int):kw x y=some (RS x y):=by
 simp only [kw,aeY,ar,fj,if_false,RS];split
 ·rfl
 ·split<;>rfl
abbrev vk (e:aa):Int:=e.By
def rc (a:aa):Prop:=0<=a.By/\0<=a.View/\a.View<=100000/\a.Value.length<=6000
instance (a:aa):Decidable (rc a):=by unfold rc;infer_instance
theorem uC (a:aa):tT a=some (decide (rc a)):=by unfold tT rc;by_cases h1:0<=a.By<;>by_cases h2:0<=a.View<;>by_cases h3:a.View<=100000<;>simp [h1,h2,h3];all_goals omega
theorem wZ (a:aa):lG a=some (decide (rc a)):=uC a
structure qZ (L:List aa):Prop where
 all: ∀e∈L,rc e
 inc:pg vk L
theorem aal {α:Type}{key:α->Int}{L:List α}(h: ∀j (hj:j+1<L.length),key L[j]<key L[j+1]):pg key L:=by
 unfold pg;rw [List.pairwise_iff_getElem];intro i j hi hj hij;induction j with
 |zero=>omega
 |succ j ih=>
  have h1:=h j hj;by_cases ayN:i=j
  ·subst ayN;exact h1
  ·exact Int.lt_trans (ih (by omega) (by omega)) h1
def amd (L:List aa)(k:Nat):Prop:= ∃hk:k<L.length,rc L[k]/\(0<k->(L[k-1]'(by omega)).By<L[k].By)
theorem pK {L:List aa}:(∀k,k<L.length->amd L k)↔qZ L:=by
 constructor
 ·intro h;refine ⟨λe he=> ?_,aal λj hj=> ?_⟩
  ·obtain ⟨k,hk,rfl⟩:=sh.1 he;exact (h k hk).2.1
  ·have:=(h (j+1) hj).2.2 (by omega);simpa using this
 ·intro h k hk;exact ⟨hk,h.all _ (AI hk),λh0=>h.inc.lt hk (by omega)⟩
theorem UM (L:List aa)(hl:L.length<2^60):bD (um ⟨L⟩) λb=>b=true↔qZ L:=by
 unfold um;refine bD.bd (yI L.length (amd L) false (λk hk _=> ?_) ?_) ?_
 ·unfold wK;simp only [show ((k:Int)<(L.length:Int)) by omega,if_true,bP hk,uC,ar];rw [wrap64 (x:=(k:Int)+1) (by omega) (by omega),show (k:Int)+1=((k+1:Nat):Int) by omega];by_cases hm:rc L[k]
  ·simp only [hm,decide_true,OF,fj,if_false];by_cases g5:k=0
   ·subst g5;simp only [show¬((0:Int)<((0:Nat):Int)) by omega,if_false,ar,fj];exact ⟨λ_=>trivial,λh=>absurd ⟨hk,hm,by omega⟩ h⟩
   ·have hk1:k-1<L.length:=by omega
    rw [wrap64 (x:=(k:Int)-1) (by omega) (by omega),show ((k:Int)-1)=((k-1:Nat):Int) by omega];simp only [show ((0:Int)<(k:Int)) by omega,if_true,bP hk1,bP hk,ar];by_cases g6:L[k].By<=L[k-1].By
    ·simp only [g6,decide_true,if_true];exact ⟨λ⟨_,_,h⟩=>by have:=h (by omega);omega,λ_=>trivial⟩
    ·simp only [g6,decide_false,fj,if_false];exact ⟨λ_=>trivial,λh=>absurd ⟨hk,hm,λ_=>by omega⟩ h⟩
  ·simp only [hm,decide_false,aav,if_true,ar];exact ⟨λ⟨_,h,_⟩=>absurd h hm,λ_=>trivial⟩
 ·unfold wK;simp only [show¬((L.length:Int)<(L.length:Int)) by omega,if_false]
 ·rintro r (⟨rfl,h⟩|⟨rfl,k,hk,h⟩)
  ·exact .mk ⟨λ_=>pK.1 h,λ_=>rfl⟩
  ·exact .mk ⟨λh=>(by cases h),λhr=>absurd (pK.2 hr k hk) h⟩
theorem Oh (L:List aa)(hl:L.length<2^60):bD (sI ⟨L⟩) λb=>b=true↔qZ L:=by
 unfold sI;refine bD.bd (yI L.length (amd L) false (λk hk _=> ?_) ?_) ?_
 ·unfold r6;simp only [show ((k:Int)<(L.length:Int)) by omega,if_true,bP hk,wZ,ar];rw [wrap64 (x:=(k:Int)+1) (by omega) (by omega),show (k:Int)+1=((k+1:Nat):Int) by omega];by_cases hm:rc L[k]
  ·simp only [hm,decide_true,OF,fj,if_false];by_cases g5:k=0
   ·subst g5;simp only [show¬((0:Int)<((0:Nat):Int)) by omega,if_false,ar,fj];exact ⟨λ_=>trivial,λh=>absurd ⟨hk,hm,by omega⟩ h⟩
   ·have hk1:k-1<L.length:=by omega
    rw [wrap64 (x:=(k:Int)-1) (by omega) (by omega),show ((k:Int)-1)=((k-1:Nat):Int) by omega];simp only [show ((0:Int)<(k:Int)) by omega,if_true,bP hk1,bP hk,ar];by_cases g6:L[k].By<=L[k-1].By
    ·simp only [g6,decide_true,if_true];exact ⟨λ⟨_,_,h⟩=>by have:=h (by omega);omega,λ_=>trivial⟩
    ·simp only [g6,decide_false,fj,if_false];exact ⟨λ_=>trivial,λh=>absurd ⟨hk,hm,λ_=>by omega⟩ h⟩
  ·simp only [hm,decide_false,aav,if_true,ar];exact ⟨λ⟨_,h,_⟩=>absurd h hm,λ_=>trivial⟩
 ·unfold r6;simp only [show¬((L.length:Int)<(L.length:Int)) by omega,if_false]
 ·rintro r (⟨rfl,h⟩|⟨rfl,k,hk,h⟩)
  ·exact .mk ⟨λ_=>pK.1 h,λ_=>rfl⟩
  ·exact .mk ⟨λh=>(by cases h),λhr=>absurd (pK.2 hr k hk) h⟩
theorem ame (x y:aa):((decide (x.By=y.By))&&((decide (x.View=y.View))&&(decide (x.Value=y.Value))))=decide (x=y):=by cases x;cases y;rw [Bool.eq_iff_iff];simp
theorem pi (a b:List aa)(hl:a.length<2^60):lB a b=some (decide (a=b)):=by
 unfold lB;by_cases h:a.length=b.length
 ·simp only [show ((a.length:Int)=(b.length:Int)) by omega,decide_true,OF,fj,if_false];have yH:Loop (uY a b) 0=some (if a=b then .inl () else .inr false):=by
   refine aak h (λk ha hb=> ?_) ?_
   ·unfold uY;simp only [show ((k:Int)<(a.length:Int)) by omega,if_true,bP ha,bP hb,ame];rw [wrap64 (by omega) (by omega),show (k:Int)+1=((k+1:Nat):Int) by omega];by_cases he:a[k]=b[k]<;>simp [he]
   ·unfold uY;simp only [show¬((a.length:Int)<(a.length:Int)) by omega,if_false]
  rw [yH];by_cases he:a=b<;>simp [he]
 ·simp only [show¬((a.length:Int)=(b.length:Int)) by omega,decide_false,aav,if_true];rw [decide_eq_false];intro he;exact h (by rw [he])
def C1 (L:List aa)(a:aa):Bool:=L.any λx=>decide (x.By=a.By)&&decide (a.View<=x.View)
def s7 (L:List aa)(a:aa):List aa:=L.take (gX vk L a.By)++[a]++L.drop (gX vk L a.By+if mF vk L a.By then 1 else 0)
def ek (L:List aa)(a:aa):List aa×Bool:=if rc a/\C1 L a=false then (s7 L a,true) else (L,false)
theorem zT {L:List aa}{a:aa}(hs:pg vk L):C1 L a=true↔ ∃h:gX vk L a.By<L.length,L[gX vk L a.By].By=a.By/\a.View<=L[gX vk L a.By].View:=by
 unfold C1;rw [List.any_eq_true];constructor
 ·rintro ⟨x,hx,hh⟩;simp only [Bool.and_eq_true,decide_eq_true_eq] at hh;have hk:mF vk L a.By=true:=vC.2 ⟨x,hx,hh.1⟩;obtain ⟨h,he⟩:=(hs.has a.By).1 hk;refine ⟨h,he,?_⟩;obtain ⟨k,hkl,rfl⟩:=sh.1 hx;have:k=gX vk L a.By:=by
   rcases aaI k (gX vk L a.By) with h1|h1|h1
   ·have:=hs.lt h h1;have:=hh.1;simp only [vk] at *;omega
   ·exact h1
   ·have:=hs.lt hkl h1;have:=hh.1;simp only [vk] at *;omega
  subst this;exact hh.2
 ·rintro ⟨h,h1,h2⟩;exact ⟨_,AI h,by simp [h1,h2]⟩
theorem aeZ {L:List aa}{s:Int}(hs:pg vk L)(hl:L.length<2^60):cZ L s kR=some ((gX vk L s:Int),mF vk L s):=by have:cZ L s kR=bsearch L s kR:=rfl;rw [this];exact Mq hs hl λa=>by unfold kR;rw [Mv];rfl
theorem xa {L:List aa}{a:aa}(hs:pg vk L)(hl:L.length<2^32):iU ⟨L⟩ a=some (⟨(ek L a).1⟩,(ek L a).2):=by
 unfold iU ek;rw [wZ];by_cases hm:rc a;rotate_left
 ·simp [hm]
 simp only [ar,hm,decide_true,OF,fj,if_false,aeZ hs (by omega)];have hle:=xF (key:=vk) L a.By;cases hh:mF vk L a.By with
 |false=>
  have ho:C1 L a=false:=by rw [aaJ];intro ho;obtain ⟨h,he,_⟩:=(zT hs).1 ho;have:=(hs.has a.By).2 ⟨h,he⟩;rw [hh] at this;cases this
  simp only [fj,if_false,ar,ho,and_self,if_true];rw [pJ (by omega)];simp only [ar];have:=Ms (key:=vk) (L:=L) (a:=a) (by':=32) (by omega);rw [this];simp only [ar,s7,Mr,hh,fj,if_false,aaO]
 |true=>
  obtain ⟨h,he⟩:=(hs.has a.By).1 hh;simp only [if_true,bP h,ar];by_cases hv:a.View<=L[gX vk L a.By].View
  ·have ho:C1 L a=true:=(zT hs).2 ⟨h,he,hv⟩;simp [hv,ho]
  ·have ho:C1 L a=false:=by rw [aaJ];intro ho;obtain ⟨_,_,h2⟩:=(zT hs).1 ho;exact hv h2
   simp only [hv,decide_false,fj,if_false,ho,and_self,if_true];rw [pJ (by omega)];simp only [ar,bP h,Int.toNat_natCast];congr 3;unfold s7;rw [hh];apply List.ext_getElem?;intro i;rw [List.getElem?_set];have eE:(L.take (gX vk L a.By)).length=gX vk L a.By:=by rw [AT];omega
   rcases aaI i (gX vk L a.By) with hi|hi|hi
   ·rw [if_neg (by omega),aaK,List.getElem?_append_left (by omega),List.getElem?_take_of_lt hi]
   ·subst hi;rw [if_pos rfl,aaK,IN (by omega),eE];simp [h]
   ·rw [if_neg (by omega),IN (by simp;omega)];simp only [aaH,eE,aaL,aaM,if_true,List.getElem?_drop];congr 1;omega
theorem ae0 {L:List aa}{a:aa}(hs:pg vk L):pg vk (s7 L a):=by
 obtain ⟨h1,h2⟩:=hs.lb a.By;unfold s7 pg;have hd: ∀x∈L.drop (gX vk L a.By+if mF vk L a.By then 1 else 0),a.By<x.By:=by
  intro x hx;obtain ⟨k,hk,rfl⟩:=sh.1 hx;rw [BY] at hk;rw [IT];have h3:=h2 (gX vk L a.By+(if mF vk L a.By then 1 else 0)+k) (by omega) (by omega);rcases Bool.eq_false_or_eq_true (mF vk L a.By) with hh|hh
  ·obtain ⟨g1,g2⟩:=(hs.has a.By).1 hh;simp only [hh,if_true] at hk⊢;have:=hs.lt (i:=gX vk L a.By) (j:=gX vk L a.By+1+k) (by omega) (by omega);simp only [vk] at *;omega
  ·simp only [hh,fj,if_false,aaO] at hk h3⊢;have eu:(L[gX vk L a.By+k]).By≠a.By:=λhe=>by have:=vC.2 ⟨_,AI (by omega:gX vk L a.By+k<L.length),he⟩;rw [hh] at this;cases this
   simp only [vk] at *;omega
 have ht: ∀x∈L.take (gX vk L a.By),x.By<a.By:=by intro x hx;obtain ⟨k,hk,rfl⟩:=sh.1 hx;rw [AT] at hk;rw [No];exact h1 k (by omega) (by omega)
 rw [aay,aay];refine ⟨⟨hs.sublist (List.take_sublist _ _),List.pairwise_singleton _ _,λx hx y hy=>by rw [IS.1 hy];exact ht x hx⟩,hs.sublist (List.drop_sublist _ _),λx hx y hy=> ?_⟩;rcases aaN.1 hx with hx|hx
 ·exact Int.lt_trans (ht x hx) (hd y hy)
 ·rw [IS.1 hx];exact hd y hy
theorem BJ {L:List aa}{a x:aa}(hs:pg vk L):x∈s7 L a↔x=a\/(x∈L/\x.By≠a.By):=by
 obtain ⟨h1,h2⟩:=hs.lb a.By;unfold s7;simp only [aaN,IS];have DU: ∀x,x∈L/\x.By≠a.By↔x∈L.take (gX vk L a.By)\/x∈L.drop (gX vk L a.By+if mF vk L a.By then 1 else 0):=by
  intro x;constructor
  ·rintro ⟨hx,eu⟩;obtain ⟨k,hk,rfl⟩:=sh.1 hx;by_cases eE:k<gX vk L a.By
   ·exact .inl (sh.2 ⟨k,by rw [AT];omega,by rw [No]⟩)
   ·right;have hgt:gX vk L a.By+(if mF vk L a.By then 1 else 0)<=k:=by
     cases hh:mF vk L a.By with
     |false=>simp;omega
     |true=>
      obtain ⟨g1,g2⟩:=(hs.has a.By).1 hh;simp only [if_true];by_cases OC:k=gX vk L a.By
      ·subst OC;exact absurd g2 eu
      ·omega
    exact sh.2 ⟨k-(gX vk L a.By+if mF vk L a.By then 1 else 0),by rw [BY];omega,by rw [IT];congr 1;omega⟩
  ·rintro (hx|hx)
   ·obtain ⟨k,hk,rfl⟩:=sh.1 hx;rw [AT] at hk;rw [No];refine ⟨AI _,?_⟩;have:=h1 k (by omega) (by omega);simp only [vk] at *;omega
   ·obtain ⟨k,hk,rfl⟩:=sh.1 hx;rw [BY] at hk;rw [IT];refine ⟨AI _,λhe=> ?_⟩;have hh:mF vk L a.By=true:=vC.2 ⟨_,AI (by omega),he⟩;obtain ⟨g1,g2⟩:=(hs.has a.By).1 hh;simp only [hh,if_true] at hk he;have:=hs.lt (i:=gX vk L a.By) (j:=gX vk L a.By+1+k) (by omega) (by omega);simp only [vk] at *;omega
 rw [DU];constructor
 ·rintro ((h|h)|h)
  ·exact .inr (.inl h)
  ·exact .inl h
  ·exact .inr (.inr h)
 ·rintro (h|h|h)
  ·exact .inl (.inr h)
  ·exact .inl (.inl h)
  ·exact .inr h
theorem vD {L:List aa}{a:aa}(h:qZ L):qZ (ek L a).1:=by
 unfold ek;split
 ·rename_i hc;refine ⟨λe he=> ?_,ae0 h.inc⟩;rcases (BJ h.inc).1 he with rfl|⟨he,_⟩
  ·exact hc.1
  ·exact h.all e he
 ·exact h
theorem yJ {L:List aa}{a:aa}:(ek L a).1.length<=L.length+1:=by
 unfold ek;split
 ·simp only [s7,aaH,AT,BY,aaL,aaM];have:=xF (key:=vk) L a.By;omega
 ·simp
end Dn.S
