import Derived.Test.YtmdlghpieagfhaaGreatDnYT
import Derived.Test.YtmdlghpieagfhaaGreatDnD
/-
  Tallies: the functions on typed values are what the document says. Conditions: none.
-/
set_option linter.unusedVariables false
set_option linter.unusedSimpArgs false
open List renaming mem_iff_getElem→cM,getElem_mem→AI,length_take→AT,length_drop→BY,getElem?_append_right→IT,mem_singleton→No,getElem_drop→OF,getElem_take→aaf,pairwise_append→aaT,length_append→aaW,append_assoc→abX,length_cons→ab1,length_nil→ab5,mem_append→ab6
open Bool renaming false_eq_true→sh,not_true→aaU,eq_false_iff→abK,not_false→ab7
open Nat renaming lt_trichotomy→aa1,add_zero→ab8
open Go Dn
namespace Dn.S
theorem abm (x:Int):nj x=some false:=by simp [nj]
theorem Ki (x y:Int):ku x y=some (OG x y):=by
 simp only [ku,abm,au,sh,if_false,OG];split
 ·rfl
 ·split<;>rfl
abbrev vk (e:aa):Int:=e.By
def xe (a:aa):Prop:=0<=a.By/\0<=a.View/\a.View<=100000/\a.Value.length<=6000
instance (a:aa):Decidable (xe a):=by unfold xe;infer_instance
theorem vK (a:aa):kq a=some (decide (xe a)):=by unfold kq xe;by_cases h1:0<=a.By<;>by_cases h2:0<=a.View<;>by_cases h3:a.View<=100000<;>simp [h1,h2,h3];all_goals omega
structure pZ (L:List aa):Prop where
 all: ∀e∈L,xe e
 inc:o8 vk L
theorem MP {α:Type}{key:α->Int}{L:List α}(h: ∀j (hj:j+1<L.length),key L[j]<key L[j+1]):o8 key L:=by
 unfold o8;rw [List.pairwise_iff_getElem];intro i j hi hj hij;induction j with
 |zero=>omega
 |succ j ih=>
  have h1:=h j hj;by_cases arC:i=j
  ·subst arC;exact h1
  ·exact Int.lt_trans (ih (by omega) (by omega)) h1
def amY (L:List aa)(k:Nat):Prop:= ∃hk:k<L.length,xe L[k]/\(0<k->(L[k-1]'(by omega)).By<L[k].By)
theorem Gv {L:List aa}:(∀k,k<L.length->amY L k)↔pZ L:=by
 constructor
 ·intro h;refine ⟨λe he=> ?_,MP λj hj=> ?_⟩
  ·obtain ⟨k,hk,rfl⟩:=cM.1 he;exact (h k hk).2.1
  ·have:=(h (j+1) hj).2.2 (by omega);simpa using this
 ·intro h k hk;exact ⟨hk,h.all _ (AI hk),λh0=>h.inc.lt hk (by omega)⟩
theorem Lu (L:List aa)(hl:L.length<2^60):aL (rO ⟨L⟩) λb=>b=true↔pZ L:=by
 unfold rO;refine aL.bd (Rc L.length (amY L) false (λk hk _=> ?_) ?_) ?_
 ·unfold qY;simp only [show ((k:Int)<(L.length:Int)) by omega,if_true,bA hk,vK,au];rw [wrap64 (x:=(k:Int)+1) (by omega) (by omega),show (k:Int)+1=((k+1:Nat):Int) by omega];by_cases hm:xe L[k]
  ·simp only [hm,decide_true,aaU,sh,if_false];by_cases g5:k=0
   ·subst g5;simp only [show¬((0:Int)<((0:Nat):Int)) by omega,if_false,au,sh];exact ⟨λ_=>trivial,λh=>absurd ⟨hk,hm,by omega⟩ h⟩
   ·have hk1:k-1<L.length:=by omega
    rw [wrap64 (x:=(k:Int)-1) (by omega) (by omega),show ((k:Int)-1)=((k-1:Nat):Int) by omega];simp only [show ((0:Int)<(k:Int)) by omega,if_true,bA hk1,bA hk,au];by_cases g6:L[k].By<=L[k-1].By
    ·simp only [g6,decide_true,if_true];exact ⟨λ⟨_,_,h⟩=>by have:=h (by omega);omega,λ_=>trivial⟩
    ·simp only [g6,decide_false,sh,if_false];exact ⟨λ_=>trivial,λh=>absurd ⟨hk,hm,λ_=>by omega⟩ h⟩
  ·simp only [hm,decide_false,ab7,if_true,au];exact ⟨λ⟨_,h,_⟩=>absurd h hm,λ_=>trivial⟩
 ·unfold qY;simp only [show¬((L.length:Int)<(L.length:Int)) by omega,if_false]
 ·rintro r (⟨rfl,h⟩|⟨rfl,k,hk,h⟩)
  ·exact .mk ⟨λ_=>Gv.1 h,λ_=>rfl⟩
  ·exact .mk ⟨λh=>(by cases h),λhr=>absurd (Gv.2 hr k hk) h⟩
theorem ait (x y:aa):((decide (x.By=y.By))&&((decide (x.View=y.View))&&(decide (x.Value=y.Value))))=decide (x=y):=by cases x;cases y;rw [Bool.eq_iff_iff];simp
theorem abn (a b:List aa)(hl:a.length<2^60):ga a b=some (decide (a=b)):=by
 unfold ga;by_cases h:a.length=b.length
 ·simp only [show ((a.length:Int)=(b.length:Int)) by omega,decide_true,aaU,sh,if_false];have Ke:Loop (fa a b) 0=some (if a=b then .inl () else .inr false):=by
   refine Xi h (λk ha hb=> ?_) ?_
   ·unfold fa;simp only [show ((k:Int)<(a.length:Int)) by omega,if_true,bA ha,bA hb,ait];rw [wrap64 (by omega) (by omega),show (k:Int)+1=((k+1:Nat):Int) by omega];by_cases he:a[k]=b[k]<;>simp [he]
   ·unfold fa;simp only [show¬((a.length:Int)<(a.length:Int)) by omega,if_false]
  rw [Ke];by_cases he:a=b<;>simp [he]
 ·simp only [show¬((a.length:Int)=(b.length:Int)) by omega,decide_false,ab7,if_true];rw [decide_eq_false];intro he;exact h (by rw [he])
theorem OI (a b:List aa)(hl:a.length<2^60):uf a b=some (decide (a=b)):=by unfold uf;rw [abn a b hl];rfl
def Rg (L:List aa)(a:aa):Bool:=L.any λx=>decide (x.By=a.By)&&decide (a.View<=x.View)
def tc (L:List aa)(a:aa):List aa:=L.take (qQ vk L a.By)++[a]++L.drop (qQ vk L a.By+if qk vk L a.By then 1 else 0)
def dV (L:List aa)(a:aa):List aa×Bool:=if xe a/\Rg L a=false then (tc L a,true) else (L,false)
theorem OJ {L:List aa}{a:aa}(hs:o8 vk L):Rg L a=true↔ ∃h:qQ vk L a.By<L.length,L[qQ vk L a.By].By=a.By/\a.View<=L[qQ vk L a.By].View:=by
 unfold Rg;rw [List.any_eq_true];constructor
 ·rintro ⟨x,hx,hh⟩;simp only [Bool.and_eq_true,decide_eq_true_eq] at hh;have hk:qk vk L a.By=true:=AE.2 ⟨x,hx,hh.1⟩;obtain ⟨h,he⟩:=(hs.has a.By).1 hk;refine ⟨h,he,?_⟩;obtain ⟨k,hkl,rfl⟩:=cM.1 hx;have:k=qQ vk L a.By:=by
   rcases aa1 k (qQ vk L a.By) with h1|h1|h1
   ·have:=hs.lt h h1;have:=hh.1;simp only [vk] at *;omega
   ·exact h1
   ·have:=hs.lt hkl h1;have:=hh.1;simp only [vk] at *;omega
  subst this;exact hh.2
 ·rintro ⟨h,h1,h2⟩;exact ⟨_,AI h,by simp [h1,h2]⟩
theorem abo {L:List aa}{s:Int}(hs:o8 vk L)(hl:L.length<2^60):ct L s kL=some ((qQ vk L s:Int),qk vk L s):=by have:ct L s kL=bsearch L s kL:=rfl;rw [this];exact Kc hs hl λa=>by unfold kL;rw [Ki];rfl
theorem vL {L:List aa}{a:aa}(hs:o8 vk L)(hl:L.length<2^32):iS ⟨L⟩ a=some (⟨(dV L a).1⟩,(dV L a).2):=by
 unfold iS dV;rw [vK];by_cases hm:xe a;rotate_left
 ·simp [hm]
 simp only [au,hm,decide_true,aaU,sh,if_false,abo hs (by omega)];have hle:=CM (key:=vk) L a.By;cases hh:qk vk L a.By with
 |false=>
  have ho:Rg L a=false:=by rw [abK];intro ho;obtain ⟨h,he,_⟩:=(OJ hs).1 ho;have:=(hs.has a.By).2 ⟨h,he⟩;rw [hh] at this;cases this
  simp only [sh,if_false,au,ho,and_self,if_true];rw [iq (by omega)];simp only [au];have:=Kf (key:=vk) (L:=L) (a:=a) (by':=32) (by omega);rw [this];simp only [au,tc,OH,hh,sh,if_false,ab8]
 |true=>
  obtain ⟨h,he⟩:=(hs.has a.By).1 hh;simp only [if_true,bA h,au];by_cases hv:a.View<=L[qQ vk L a.By].View
  ·have ho:Rg L a=true:=(OJ hs).2 ⟨h,he,hv⟩;simp [hv,ho]
  ·have ho:Rg L a=false:=by rw [abK];intro ho;obtain ⟨_,_,h2⟩:=(OJ hs).1 ho;exact hv h2
   simp only [hv,decide_false,sh,if_false,ho,and_self,if_true];rw [iq (by omega)];simp only [au,bA h,Int.toNat_natCast];congr 3;unfold tc;rw [hh];apply List.ext_getElem?;intro i;rw [List.getElem?_set];have cT:(L.take (qQ vk L a.By)).length=qQ vk L a.By:=by rw [AT];omega
   rcases aa1 i (qQ vk L a.By) with hi|hi|hi
   ·rw [if_neg (by omega),abX,List.getElem?_append_left (by omega),List.getElem?_take_of_lt hi]
   ·subst hi;rw [if_pos rfl,abX,IT (by omega),cT];simp [h]
   ·rw [if_neg (by omega),IT (by simp;omega)];simp only [aaW,cT,ab1,ab5,if_true,List.getElem?_drop];congr 1;omega
theorem abp {L:List aa}{a:aa}(hs:o8 vk L):o8 vk (tc L a):=by
 obtain ⟨h1,h2⟩:=hs.lb a.By;unfold tc o8;have hd: ∀x∈L.drop (qQ vk L a.By+if qk vk L a.By then 1 else 0),a.By<x.By:=by
  intro x hx;obtain ⟨k,hk,rfl⟩:=cM.1 hx;rw [BY] at hk;rw [OF];have h3:=h2 (qQ vk L a.By+(if qk vk L a.By then 1 else 0)+k) (by omega) (by omega);rcases Bool.eq_false_or_eq_true (qk vk L a.By) with hh|hh
  ·obtain ⟨g1,g2⟩:=(hs.has a.By).1 hh;simp only [hh,if_true] at hk⊢;have:=hs.lt (i:=qQ vk L a.By) (j:=qQ vk L a.By+1+k) (by omega) (by omega);simp only [vk] at *;omega
  ·simp only [hh,sh,if_false,ab8] at hk h3⊢;have db:(L[qQ vk L a.By+k]).By≠a.By:=λhe=>by have:=AE.2 ⟨_,AI (by omega:qQ vk L a.By+k<L.length),he⟩;rw [hh] at this;cases this
   simp only [vk] at *;omega
 have ht: ∀x∈L.take (qQ vk L a.By),x.By<a.By:=by intro x hx;obtain ⟨k,hk,rfl⟩:=cM.1 hx;rw [AT] at hk;rw [aaf];exact h1 k (by omega) (by omega)
 rw [aaT,aaT];refine ⟨⟨hs.sublist (List.take_sublist _ _),List.pairwise_singleton _ _,λx hx y hy=>by rw [No.1 hy];exact ht x hx⟩,hs.sublist (List.drop_sublist _ _),λx hx y hy=> ?_⟩;rcases ab6.1 hx with hx|hx
 ·exact Int.lt_trans (ht x hx) (hd y hy)
 ·rw [No.1 hx];exact hd y hy
theorem AF {L:List aa}{a x:aa}(hs:o8 vk L):x∈tc L a↔x=a\/(x∈L/\x.By≠a.By):=by
 obtain ⟨h1,h2⟩:=hs.lb a.By;unfold tc;simp only [ab6,No];have Cr: ∀x,x∈L/\x.By≠a.By↔x∈L.take (qQ vk L a.By)\/x∈L.drop (qQ vk L a.By+if qk vk L a.By then 1 else 0):=by
  intro x;constructor
  ·rintro ⟨hx,db⟩;obtain ⟨k,hk,rfl⟩:=cM.1 hx;by_cases cT:k<qQ vk L a.By
   ·exact .inl (cM.2 ⟨k,by rw [AT];omega,by rw [aaf]⟩)
   ·right;have hgt:qQ vk L a.By+(if qk vk L a.By then 1 else 0)<=k:=by
     cases hh:qk vk L a.By with
     |false=>simp;omega
     |true=>
      obtain ⟨g1,g2⟩:=(hs.has a.By).1 hh;simp only [if_true];by_cases Pb:k=qQ vk L a.By
      ·subst Pb;exact absurd g2 db
      ·omega
    exact cM.2 ⟨k-(qQ vk L a.By+if qk vk L a.By then 1 else 0),by rw [BY];omega,by rw [OF];congr 1;omega⟩
  ·rintro (hx|hx)
   ·obtain ⟨k,hk,rfl⟩:=cM.1 hx;rw [AT] at hk;rw [aaf];refine ⟨AI _,?_⟩;have:=h1 k (by omega) (by omega);simp only [vk] at *;omega
   ·obtain ⟨k,hk,rfl⟩:=cM.1 hx;rw [BY] at hk;rw [OF];refine ⟨AI _,λhe=> ?_⟩;have hh:qk vk L a.By=true:=AE.2 ⟨_,AI (by omega),he⟩;obtain ⟨g1,g2⟩:=(hs.has a.By).1 hh;simp only [hh,if_true] at hk he;have:=hs.lt (i:=qQ vk L a.By) (j:=qQ vk L a.By+1+k) (by omega) (by omega);simp only [vk] at *;omega
 rw [Cr];constructor
 ·rintro ((h|h)|h)
  ·exact .inr (.inl h)
  ·exact .inl h
  ·exact .inr (.inr h)
 ·rintro (h|h|h)
  ·exact .inl (.inr h)
  ·exact .inl (.inl h)
  ·exact .inr h
theorem uB {L:List aa}{a:aa}(h:pZ L):pZ (dV L a).1:=by
 unfold dV;split
 ·rename_i hc;refine ⟨λe he=> ?_,abp h.inc⟩;rcases (AF h.inc).1 he with rfl|⟨he,_⟩
  ·exact hc.1
  ·exact h.all e he
 ·exact h
theorem Rh {L:List aa}{a:aa}:(dV L a).1.length<=L.length+1:=by
 unfold dV;split
 ·simp only [tc,aaW,AT,BY,ab1,ab5];have:=CM (key:=vk) L a.By;omega
 ·simp
end Dn.S
