import Derived.Test.YtmdlghpieagfhaaGreatDnYT
import Derived.Test.YtmdlghpieagfhaaGreatDnD
/-
  Tallies: the functions on typed values are what the document says. Conditions: none.
-/
open Go Dn
set_option linter.unusedVariables false
set_option linter.unusedSimpArgs false
namespace Dn.S
theorem Tc (x:Int):kX x=some false:=by simp [kX]
theorem MA (x y:Int):iK x y=some (IF x y):=by
 simp only [iK,Tc,bl,Bool.false_eq_true,if_false,IF]
 split
 ·rfl
 ·split<;>rfl
abbrev vk (e:aa):Int:=e.By
def tm (a:aa):Prop:=0≤a.By∧0≤a.View∧a.View≤100000∧a.Value.length≤6000
instance (a:aa):Decidable (tm a):=by unfold tm;infer_instance
theorem BC (a:aa):xj a=some (decide (tm a)):=by
 unfold xj tm
 by_cases h1:0≤a.By<;>by_cases h2:0≤a.View<;>by_cases h3:a.View≤100000<;>simp [h1,h2,h3]
 all_goals omega
theorem wK (a:aa):jD a=some (decide (tm a)):=BC a
structure sE (L:List aa):Prop where
 all: ∀e∈L,tm e
 inc:qh vk L
def xF (L:List aa) (a:aa):Bool:=L.any fun x=>decide (x.By=a.By)&&decide (a.View≤x.View)
def pg (L:List aa) (a:aa):List aa:=L.take (iQ vk L a.By)++[a]++L.drop (iQ vk L a.By+if qg vk L a.By then 1 else 0)
def iS (L:List aa) (a:aa):List aa×Bool:=if tm a∧xF L a=false then (pg L a,true) else (L,false)
theorem uE {L:List aa} {a:aa} (hs:qh vk L):xF L a=true↔ ∃h:iQ vk L a.By<L.length,L[iQ vk L a.By].By=a.By∧a.View≤L[iQ vk L a.By].View:=by
 unfold xF
 rw [List.any_eq_true]
 constructor
 ·rintro ⟨x,hx,hh⟩
  simp only [Bool.and_eq_true,decide_eq_true_eq] at hh
  have hk:qg vk L a.By=true:=AJ.2 ⟨x,hx,hh.1⟩
  obtain ⟨h,he⟩:=(hs.has a.By).1 hk
  refine ⟨h,he,?_⟩
  obtain ⟨k,hkl,rfl⟩:=List.mem_iff_getElem.1 hx
  have:k=iQ vk L a.By:=by
   rcases Nat.lt_trichotomy k (iQ vk L a.By) with h1|h1|h1
   ·have:=hs.lt h h1;have:=hh.1;simp only [vk] at *;omega
   ·exact h1
   ·have:=hs.lt hkl h1;have:=hh.1;simp only [vk] at *;omega
  subst this
  exact hh.2
 ·rintro ⟨h,h1,h2⟩
  exact ⟨_,List.getElem_mem h,by simp [h1,h2]⟩
theorem Td {L:List aa} {s:Int} (hs:qh vk L) (hl:L.length<2^60):b5 L s ja=some ((iQ vk L s:Int),qg vk L s):=by
 have:b5 L s ja=bsearch L s ja:=rfl
 rw [this]
 exact Mw hs hl fun a=>by unfold ja;rw [MA];rfl
theorem Cm {L:List aa} {a:aa} (hs:qh vk L) (hl:L.length<2^32):iL ⟨L⟩ a=some (⟨(iS L a).1⟩,(iS L a).2):=by
 unfold iL iS
 rw [wK]
 by_cases hm:tm a
 rotate_left
 ·simp [hm]
 simp only [bl,hm,decide_true,Bool.not_true,Bool.false_eq_true,if_false,Td hs (by omega)]
 have hle:=za (key:=vk) L a.By
 cases hh:qg vk L a.By with
 |false=>
  have ho:xF L a=false:=by
   rw [Bool.eq_false_iff]
   intro ho
   obtain ⟨h,he,_⟩:=(uE hs).1 ho
   have:=(hs.has a.By).2 ⟨h,he⟩
   rw [hh] at this;cases this
  simp only [Bool.false_eq_true,if_false,bl,ho,and_self,if_true]
  rw [qx (by omega)]
  simp only [bl]
  have:=Mx (key:=vk) (L:=L) (a:=a) (ZD:=32) (by omega)
  rw [this]
  simp only [bl,pg,acZ,hh,Bool.false_eq_true,if_false,Nat.add_zero]
 |true=>
  obtain ⟨h,he⟩:=(hs.has a.By).1 hh
  simp only [if_true,cW h,bl]
  by_cases hv:a.View≤L[iQ vk L a.By].View
  ·have ho:xF L a=true:=(uE hs).2 ⟨h,he,hv⟩
   simp [hv,ho]
  ·have ho:xF L a=false:=by
    rw [Bool.eq_false_iff]
    intro ho
    obtain ⟨_,_,h2⟩:=(uE hs).1 ho
    exact hv h2
   simp only [hv,decide_false,Bool.false_eq_true,if_false,ho,and_self,if_true]
   rw [qx (by omega)]
   simp only [bl,cW h,Int.toNat_natCast]
   congr 3
   unfold pg
   rw [hh]
   apply List.ext_getElem?
   intro i
   rw [List.getElem?_set]
   have du:(L.take (iQ vk L a.By)).length=iQ vk L a.By:=by rw [List.length_take];omega
   rcases Nat.lt_trichotomy i (iQ vk L a.By) with hi|hi|hi
   ·rw [if_neg (by omega),List.append_assoc,List.getElem?_append_left (by omega),List.getElem?_take_of_lt hi]
   ·subst hi
    rw [if_pos rfl,List.append_assoc,List.getElem?_append_right (by omega),du]
    simp [h]
   ·rw [if_neg (by omega),List.getElem?_append_right (by simp;omega)]
    simp only [List.length_append,du,List.length_cons,List.length_nil,if_true,List.getElem?_drop]
    congr 1;omega
theorem Te {L:List aa} {a:aa} (hs:qh vk L):qh vk (pg L a):=by
 obtain ⟨h1,h2⟩:=hs.lb a.By
 unfold pg qh
 have hd: ∀x∈L.drop (iQ vk L a.By+if qg vk L a.By then 1 else 0),a.By<x.By:=by
  intro x hx
  obtain ⟨k,hk,rfl⟩:=List.mem_iff_getElem.1 hx
  rw [List.length_drop] at hk
  rw [List.getElem_drop]
  have h3:=h2 (iQ vk L a.By+(if qg vk L a.By then 1 else 0)+k) (by omega) (by omega)
  rcases Bool.eq_false_or_eq_true (qg vk L a.By) with hh|hh
  ·obtain ⟨g1,g2⟩:=(hs.has a.By).1 hh
   simp only [hh,if_true] at hk⊢
   have:=hs.lt (i:=iQ vk L a.By) (j:=iQ vk L a.By+1+k) (by omega) (by omega)
   simp only [vk] at *;omega
  ·simp only [hh,Bool.false_eq_true,if_false,Nat.add_zero] at hk h3⊢
   have dt:(L[iQ vk L a.By+k]).By≠a.By:=fun he=>by
    have:=AJ.2 ⟨_,List.getElem_mem (by omega:iQ vk L a.By+k<L.length),he⟩
    rw [hh] at this;cases this
   simp only [vk] at *;omega
 have ht: ∀x∈L.take (iQ vk L a.By),x.By<a.By:=by
  intro x hx
  obtain ⟨k,hk,rfl⟩:=List.mem_iff_getElem.1 hx
  rw [List.length_take] at hk
  rw [List.getElem_take]
  exact h1 k (by omega) (by omega)
 rw [List.pairwise_append,List.pairwise_append]
 refine ⟨⟨hs.sublist (List.take_sublist _ _),List.pairwise_singleton _ _,fun x hx y hy=>by rw [List.mem_singleton.1 hy];exact ht x hx⟩,hs.sublist (List.drop_sublist _ _),fun x hx y hy=> ?_⟩
 rcases List.mem_append.1 hx with hx|hx
 ·exact Int.lt_trans (ht x hx) (hd y hy)
 ·rw [List.mem_singleton.1 hx];exact hd y hy
theorem wL {L:List aa} {a x:aa} (hs:qh vk L):x∈pg L a↔x=a∨(x∈L∧x.By≠a.By):=by
 obtain ⟨h1,h2⟩:=hs.lb a.By
 unfold pg
 simp only [List.mem_append,List.mem_singleton]
 have yB: ∀x,x∈L∧x.By≠a.By↔x∈L.take (iQ vk L a.By)∨x∈L.drop (iQ vk L a.By+if qg vk L a.By then 1 else 0):=by
  intro x
  constructor
  ·rintro ⟨hx,dt⟩
   obtain ⟨k,hk,rfl⟩:=List.mem_iff_getElem.1 hx
   by_cases du:k<iQ vk L a.By
   ·exact .inl (List.mem_iff_getElem.2 ⟨k,by rw [List.length_take];omega,by rw [List.getElem_take]⟩)
   ·right
    have PS:iQ vk L a.By+(if qg vk L a.By then 1 else 0)≤k:=by
     cases hh:qg vk L a.By with
     |false=>simp;omega
     |true=>
      obtain ⟨g1,g2⟩:=(hs.has a.By).1 hh
      simp only [if_true]
      by_cases IU:k=iQ vk L a.By
      ·subst IU;exact absurd g2 dt
      ·omega
    exact List.mem_iff_getElem.2 ⟨k-(iQ vk L a.By+if qg vk L a.By then 1 else 0),by rw [List.length_drop];omega,by rw [List.getElem_drop];congr 1;omega⟩
  ·rintro (hx|hx)
   ·obtain ⟨k,hk,rfl⟩:=List.mem_iff_getElem.1 hx
    rw [List.length_take] at hk
    rw [List.getElem_take]
    refine ⟨List.getElem_mem _,?_⟩
    have:=h1 k (by omega) (by omega)
    simp only [vk] at *;omega
   ·obtain ⟨k,hk,rfl⟩:=List.mem_iff_getElem.1 hx
    rw [List.length_drop] at hk
    rw [List.getElem_drop]
    refine ⟨List.getElem_mem _,fun he=> ?_⟩
    have hh:qg vk L a.By=true:=AJ.2 ⟨_,List.getElem_mem (by omega),he⟩
    obtain ⟨g1,g2⟩:=(hs.has a.By).1 hh
    simp only [hh,if_true] at hk he
    have:=hs.lt (i:=iQ vk L a.By) (j:=iQ vk L a.By+1+k) (by omega) (by omega)
    simp only [vk] at *;omega
 rw [yB]
 constructor
 ·rintro ((h|h)|h)
  ·exact .inr (.inl h)
  ·exact .inl h
  ·exact .inr (.inr h)
 ·rintro (h|h|h)
  ·exact .inl (.inr h)
  ·exact .inl (.inl h)
  ·exact .inr h
theorem q0 {L:List aa} {a:aa} (h:sE L):sE (iS L a).1:=by
 unfold iS
 split
 ·rename_i hc
  refine ⟨fun e he=> ?_,Te h.inc⟩
  rcases (wL h.inc).1 he with rfl|⟨he,_⟩
  ·exact hc.1
  ·exact h.all e he
 ·exact h
theorem KG {L:List aa} {a:aa}:(iS L a).1.length≤L.length+1:=by
 unfold iS
 split
 ·simp only [pg,List.length_append,List.length_take,List.length_drop,List.length_cons,List.length_nil]
  have:=za (key:=vk) L a.By
  omega
 ·simp
end Dn.S
