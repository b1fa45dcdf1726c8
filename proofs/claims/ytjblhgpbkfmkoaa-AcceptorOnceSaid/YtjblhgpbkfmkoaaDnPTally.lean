import Derived.Test.YtjblhgpbkfmkoaaDnYT
import Derived.Test.YtjblhgpbkfmkoaaDnD
/-
  Tallies: the functions on typed values are what the document says. Conditions: none.
-/
open Go Dn
set_option linter.unusedVariables false
set_option linter.unusedSimpArgs false
namespace Dn.S
theorem Pt (x:Int):gQ x=some false:=by simp [gQ]
theorem IA (x y:Int):gk x y=some (Es x y):=by
 simp only [gk,Pt,aq,Bool.false_eq_true,if_false,Es]
 split
 ·rfl
 ·split<;>rfl
abbrev vk (e:aa):Int:=e.By
def qE (a:aa):Prop:=0≤a.By∧0≤a.View∧a.View≤100000∧a.Value.length≤6000
instance (a:aa):Decidable (qE a):=by unfold qE;infer_instance
theorem o9 (a:aa):nD a=some (decide (qE a)):=by
 unfold nD qE
 by_cases h1:0≤a.By<;>by_cases h2:0≤a.View<;>by_cases h3:a.View≤100000<;>simp [h1,h2,h3]
 all_goals omega
theorem rC (a:aa):jd a=some (decide (qE a)):=o9 a
structure n7 (L:List aa):Prop where
 all: ∀e∈L,qE e
 inc:o8 vk L
theorem LB {α:Type} {key:α→Int} {L:List α} (h: ∀j (hj:j+1<L.length),key L[j]<key L[j+1]):o8 key L:=by
 unfold o8
 rw [List.pairwise_iff_getElem]
 intro i j hi hj hij
 induction j with
 |zero=>omega
 |succ j ih=>
  have h1:=h j hj
  by_cases adO:i=j
  ·subst adO;exact h1
  ·exact Int.lt_trans (ih (by omega) (by omega)) h1
def VL (L:List aa) (k:Nat):Prop:= ∃hk:k<L.length,qE L[k]∧(0<k→(L[k-1]'(by omega)).By<L[k].By)
theorem jg {L:List aa}:(∀k,k<L.length→VL L k)↔n7 L:=by
 constructor
 ·intro h
  refine ⟨fun e he=> ?_,LB fun j hj=> ?_⟩
  ·obtain ⟨k,hk,rfl⟩:=List.mem_iff_getElem.1 he
   exact (h k hk).2.1
  ·have:=(h (j+1) hj).2.2 (by omega)
   simpa using this
 ·intro h k hk
  exact ⟨hk,h.all _ (List.getElem_mem hk),fun h0=>h.inc.lt hk (by omega)⟩
theorem Gu (L:List aa) (hl:L.length<2^60):aO (lU ⟨L⟩) fun b=>b=true↔n7 L:=by
 unfold lU
 refine aO.bd (rB L.length (VL L) false (fun k hk _=> ?_) ?_) ?_
 ·unfold nE
  simp only [show ((k:Int)<(L.length:Int)) by omega,if_true,bO hk,o9,aq]
  rw [wrap64 (x:=(k:Int)+1) (by omega) (by omega),show (k:Int)+1=((k+1:Nat):Int) by omega]
  by_cases hm:qE L[k]
  ·simp only [hm,decide_true,Bool.not_true,Bool.false_eq_true,if_false]
   by_cases g5:k=0
   ·subst g5
    simp only [show¬((0:Int)<((0:Nat):Int)) by omega,if_false,aq,Bool.false_eq_true]
    exact ⟨fun _=>trivial,fun h=>absurd ⟨hk,hm,by omega⟩ h⟩
   ·have NN:k-1<L.length:=by omega
    rw [wrap64 (x:=(k:Int)-1) (by omega) (by omega),show ((k:Int)-1)=((k-1:Nat):Int) by omega]
    simp only [show ((0:Int)<(k:Int)) by omega,if_true,bO NN,bO hk,aq]
    by_cases g6:L[k].By≤L[k-1].By
    ·simp only [g6,decide_true,if_true];exact ⟨fun ⟨_,_,h⟩=>by have:=h (by omega);omega,fun _=>trivial⟩
    ·simp only [g6,decide_false,Bool.false_eq_true,if_false];exact ⟨fun _=>trivial,fun h=>absurd ⟨hk,hm,fun _=>by omega⟩ h⟩
  ·simp only [hm,decide_false,Bool.not_false,if_true,aq]
   exact ⟨fun ⟨_,h,_⟩=>absurd h hm,fun _=>trivial⟩
 ·unfold nE
  simp only [show¬((L.length:Int)<(L.length:Int)) by omega,if_false]
 ·rintro r (⟨rfl,h⟩|⟨rfl,k,hk,h⟩)
  ·exact .mk ⟨fun _=>jg.1 h,fun _=>rfl⟩
  ·exact .mk ⟨fun h=>(by cases h),fun hr=>absurd (jg.2 hr k hk) h⟩
theorem BV (L:List aa) (hl:L.length<2^60):aO (gf ⟨L⟩) fun b=>b=true↔n7 L:=by
 unfold gf
 refine aO.bd (rB L.length (VL L) false (fun k hk _=> ?_) ?_) ?_
 ·unfold fD
  simp only [show ((k:Int)<(L.length:Int)) by omega,if_true,bO hk,rC,aq]
  rw [wrap64 (x:=(k:Int)+1) (by omega) (by omega),show (k:Int)+1=((k+1:Nat):Int) by omega]
  by_cases hm:qE L[k]
  ·simp only [hm,decide_true,Bool.not_true,Bool.false_eq_true,if_false]
   by_cases g5:k=0
   ·subst g5
    simp only [show¬((0:Int)<((0:Nat):Int)) by omega,if_false,aq,Bool.false_eq_true]
    exact ⟨fun _=>trivial,fun h=>absurd ⟨hk,hm,by omega⟩ h⟩
   ·have NN:k-1<L.length:=by omega
    rw [wrap64 (x:=(k:Int)-1) (by omega) (by omega),show ((k:Int)-1)=((k-1:Nat):Int) by omega]
    simp only [show ((0:Int)<(k:Int)) by omega,if_true,bO NN,bO hk,aq]
    by_cases g6:L[k].By≤L[k-1].By
    ·simp only [g6,decide_true,if_true];exact ⟨fun ⟨_,_,h⟩=>by have:=h (by omega);omega,fun _=>trivial⟩
    ·simp only [g6,decide_false,Bool.false_eq_true,if_false];exact ⟨fun _=>trivial,fun h=>absurd ⟨hk,hm,fun _=>by omega⟩ h⟩
  ·simp only [hm,decide_false,Bool.not_false,if_true,aq]
   exact ⟨fun ⟨_,h,_⟩=>absurd h hm,fun _=>trivial⟩
 ·unfold fD
  simp only [show¬((L.length:Int)<(L.length:Int)) by omega,if_false]
 ·rintro r (⟨rfl,h⟩|⟨rfl,k,hk,h⟩)
  ·exact .mk ⟨fun _=>jg.1 h,fun _=>rfl⟩
  ·exact .mk ⟨fun h=>(by cases h),fun hr=>absurd (jg.2 hr k hk) h⟩
def vH (L:List aa) (a:aa):Bool:=L.any fun x=>decide (x.By=a.By)&&decide (a.View≤x.View)
def BW (L:List aa) (a:aa):List aa:=L.take (eN vk L a.By)++[a]++L.drop (eN vk L a.By+if mN vk L a.By then 1 else 0)
def iz (L:List aa) (a:aa):List aa×Bool:=if qE a∧vH L a=false then (BW L a,true) else (L,false)
theorem qg {L:List aa} {a:aa} (hs:o8 vk L):vH L a=true↔ ∃h:eN vk L a.By<L.length,L[eN vk L a.By].By=a.By∧a.View≤L[eN vk L a.By].View:=by
 unfold vH
 rw [List.any_eq_true]
 constructor
 ·rintro ⟨x,hx,hh⟩
  simp only [Bool.and_eq_true,decide_eq_true_eq] at hh
  have hk:mN vk L a.By=true:=AG.2 ⟨x,hx,hh.1⟩
  obtain ⟨h,he⟩:=(hs.has a.By).1 hk
  refine ⟨h,he,?_⟩
  obtain ⟨k,hkl,rfl⟩:=List.mem_iff_getElem.1 hx
  have:k=eN vk L a.By:=by
   rcases Nat.lt_trichotomy k (eN vk L a.By) with h1|h1|h1
   ·have:=hs.lt h h1;have:=hh.1;simp only [vk] at *;omega
   ·exact h1
   ·have:=hs.lt hkl h1;have:=hh.1;simp only [vk] at *;omega
  subst this
  exact hh.2
 ·rintro ⟨h,h1,h2⟩
  exact ⟨_,List.getElem_mem h,by simp [h1,h2]⟩
theorem Pu {L:List aa} {s:Int} (hs:o8 vk L) (hl:L.length<2^60):bC L s eU=some ((eN vk L s:Int),mN vk L s):=by
 have:bC L s eU=bsearch L s eU:=rfl
 rw [this]
 exact Iw hs hl fun a=>by unfold eU;rw [IA];rfl
theorem Gv {L:List aa} {a:aa} (hs:o8 vk L) (hl:L.length<2^32):kj ⟨L⟩ a=some (⟨(iz L a).1⟩,(iz L a).2):=by
 unfold kj iz
 rw [rC]
 by_cases hm:qE a
 rotate_left
 ·simp [hm]
 simp only [aq,hm,decide_true,Bool.not_true,Bool.false_eq_true,if_false,Pu hs (by omega)]
 have hle:=wR (key:=vk) L a.By
 cases hh:mN vk L a.By with
 |false=>
  have ho:vH L a=false:=by
   rw [Bool.eq_false_iff]
   intro ho
   obtain ⟨h,he,_⟩:=(qg hs).1 ho
   have:=(hs.has a.By).2 ⟨h,he⟩
   rw [hh] at this;cases this
  simp only [Bool.false_eq_true,if_false,aq,ho,and_self,if_true]
  rw [C8 (by omega)]
  simp only [aq]
  have:=Ix (key:=vk) (L:=L) (a:=a) (Wm:=32) (by omega)
  rw [this]
  simp only [aq,BW,Y6,hh,Bool.false_eq_true,if_false,Nat.add_zero]
 |true=>
  obtain ⟨h,he⟩:=(hs.has a.By).1 hh
  simp only [if_true,bO h,aq]
  by_cases hv:a.View≤L[eN vk L a.By].View
  ·have ho:vH L a=true:=(qg hs).2 ⟨h,he,hv⟩
   simp [hv,ho]
  ·have ho:vH L a=false:=by
    rw [Bool.eq_false_iff]
    intro ho
    obtain ⟨_,_,h2⟩:=(qg hs).1 ho
    exact hv h2
   simp only [hv,decide_false,Bool.false_eq_true,if_false,ho,and_self,if_true]
   rw [C8 (by omega)]
   simp only [aq,bO h,Int.toNat_natCast]
   congr 3
   unfold BW
   rw [hh]
   apply List.ext_getElem?
   intro i
   rw [List.getElem?_set]
   have cA:(L.take (eN vk L a.By)).length=eN vk L a.By:=by rw [List.length_take];omega
   rcases Nat.lt_trichotomy i (eN vk L a.By) with hi|hi|hi
   ·rw [if_neg (by omega),List.append_assoc,List.getElem?_append_left (by omega),List.getElem?_take_of_lt hi]
   ·subst hi
    rw [if_pos rfl,List.append_assoc,List.getElem?_append_right (by omega),cA]
    simp [h]
   ·rw [if_neg (by omega),List.getElem?_append_right (by simp;omega)]
    simp only [List.length_append,cA,List.length_cons,List.length_nil,if_true,List.getElem?_drop]
    congr 1;omega
theorem Pv {L:List aa} {a:aa} (hs:o8 vk L):o8 vk (BW L a):=by
 obtain ⟨h1,h2⟩:=hs.lb a.By
 unfold BW o8
 have hd: ∀x∈L.drop (eN vk L a.By+if mN vk L a.By then 1 else 0),a.By<x.By:=by
  intro x hx
  obtain ⟨k,hk,rfl⟩:=List.mem_iff_getElem.1 hx
  rw [List.length_drop] at hk
  rw [List.getElem_drop]
  have h3:=h2 (eN vk L a.By+(if mN vk L a.By then 1 else 0)+k) (by omega) (by omega)
  rcases Bool.eq_false_or_eq_true (mN vk L a.By) with hh|hh
  ·obtain ⟨g1,g2⟩:=(hs.has a.By).1 hh
   simp only [hh,if_true] at hk⊢
   have:=hs.lt (i:=eN vk L a.By) (j:=eN vk L a.By+1+k) (by omega) (by omega)
   simp only [vk] at *;omega
  ·simp only [hh,Bool.false_eq_true,if_false,Nat.add_zero] at hk h3⊢
   have cm:(L[eN vk L a.By+k]).By≠a.By:=fun he=>by
    have:=AG.2 ⟨_,List.getElem_mem (by omega:eN vk L a.By+k<L.length),he⟩
    rw [hh] at this;cases this
   simp only [vk] at *;omega
 have ht: ∀x∈L.take (eN vk L a.By),x.By<a.By:=by
  intro x hx
  obtain ⟨k,hk,rfl⟩:=List.mem_iff_getElem.1 hx
  rw [List.length_take] at hk
  rw [List.getElem_take]
  exact h1 k (by omega) (by omega)
 rw [List.pairwise_append,List.pairwise_append]
 refine ⟨⟨hs.sublist (List.take_sublist _ _),List.pairwise_singleton _ _,fun x hx y hy=>by rw [List.mem_singleton.1 hy];exact ht x hx⟩,hs.sublist (List.drop_sublist _ _),fun x hx y hy=> ?_⟩
 rcases List.mem_append.1 hx with hx|hx
 ·exact Int.lt_trans (ht x hx) (hd y hy)
 ·rw [List.mem_singleton.1 hx];exact hd y hy
theorem Gw {L:List aa} {a x:aa} (hs:o8 vk L):x∈BW L a↔x=a∨(x∈L∧x.By≠a.By):=by
 obtain ⟨h1,h2⟩:=hs.lb a.By
 unfold BW
 simp only [List.mem_append,List.mem_singleton]
 have tL: ∀x,x∈L∧x.By≠a.By↔x∈L.take (eN vk L a.By)∨x∈L.drop (eN vk L a.By+if mN vk L a.By then 1 else 0):=by
  intro x
  constructor
  ·rintro ⟨hx,cm⟩
   obtain ⟨k,hk,rfl⟩:=List.mem_iff_getElem.1 hx
   by_cases cA:k<eN vk L a.By
   ·exact .inl (List.mem_iff_getElem.2 ⟨k,by rw [List.length_take];omega,by rw [List.getElem_take]⟩)
   ·right
    have Fz:eN vk L a.By+(if mN vk L a.By then 1 else 0)≤k:=by
     cases hh:mN vk L a.By with
     |false=>simp;omega
     |true=>
      obtain ⟨g1,g2⟩:=(hs.has a.By).1 hh
      simp only [if_true]
      by_cases EP:k=eN vk L a.By
      ·subst EP;exact absurd g2 cm
      ·omega
    exact List.mem_iff_getElem.2 ⟨k-(eN vk L a.By+if mN vk L a.By then 1 else 0),by rw [List.length_drop];omega,by rw [List.getElem_drop];congr 1;omega⟩
  ·rintro (hx|hx)
   ·obtain ⟨k,hk,rfl⟩:=List.mem_iff_getElem.1 hx
    rw [List.length_take] at hk
    rw [List.getElem_take]
    refine ⟨List.getElem_mem _,?_⟩
    have:=h1 k (by omega) (by omega)
    simp only [vk] at *;omega
   ·obtain ⟨k,hk,rfl⟩:=List.mem_iff_getElem.1 hx
    rw [List.length_drop] at hk
    rw [List.getElem_drop]
    refine ⟨List.getElem_mem _,fun he=> ?_⟩
    have hh:mN vk L a.By=true:=AG.2 ⟨_,List.getElem_mem (by omega),he⟩
    obtain ⟨g1,g2⟩:=(hs.has a.By).1 hh
    simp only [hh,if_true] at hk he
    have:=hs.lt (i:=eN vk L a.By) (j:=eN vk L a.By+1+k) (by omega) (by omega)
    simp only [vk] at *;omega
 rw [tL]
 constructor
 ·rintro ((h|h)|h)
  ·exact .inr (.inl h)
  ·exact .inl h
  ·exact .inr (.inr h)
 ·rintro (h|h|h)
  ·exact .inl (.inr h)
  ·exact .inl (.inl h)
  ·exact .inr h
theorem uc {L:List aa} {a:aa} (h:n7 L):n7 (iz L a).1:=by
 unfold iz
 split
 ·rename_i hc
  refine ⟨fun e he=> ?_,Pv h.inc⟩
  rcases (Gw h.inc).1 he with rfl|⟨he,_⟩
  ·exact hc.1
  ·exact h.all e he
 ·exact h
theorem Gx {L:List aa} {a:aa}:(iz L a).1.length≤L.length+1:=by
 unfold iz
 split
 ·simp only [BW,List.length_append,List.length_take,List.length_drop,List.length_cons,List.length_nil]
  have:=wR (key:=vk) L a.By
  omega
 ·simp
end Dn.S
