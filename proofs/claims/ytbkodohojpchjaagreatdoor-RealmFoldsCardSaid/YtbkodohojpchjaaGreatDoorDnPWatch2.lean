import Derived.Test.YtbkodohojpchjaaGreatDoorDnPWatch
/-
  Watches: which tables may be; what they come to. Conditions: none.
-/
set_option linter.unusedVariables false
set_option linter.unusedSimpArgs false
open List renaming getElem?_eq_getElem→c9,length_nil→sh,length_map→AI,foldl_cons→AS,length_cons→AT,nil_append→By
open Option.some renaming inj→BY
open Go Dn
namespace Dn.S
structure Kn (L:List aq):Prop where
 len:L.length<=200
 all: ∀w∈L,bA w.Path=true/\0<=w.Client
 nodup:L.Nodup
theorem XC (L:List aF)(w:aF)(hl:L.length<2^60):Bg L w=some (decide (w∈L)):=by
 unfold Bg;have hA:=EA (body:=wF L w) L.length (λk=>L[k]? ≠some w) true (λk hk _=> ?_) ?_
 ·obtain ⟨r,er,hr⟩:=hA;rw [er,av];rcases hr with ⟨rfl,h⟩|⟨rfl,k,hk,h⟩
  ·dsimp only;rw [decide_eq_false];intro hm;obtain ⟨k,hk,rfl⟩:=List.mem_iff_getElem.1 hm;exact h k hk (c9 hk)
  ·dsimp only;rw [decide_eq_true];have:=Decidable.not_not.1 h;exact List.mem_of_getElem? this
 ·unfold wF;rw [if_pos (by omega),ba hk,ON,wrap64 (by omega) (by omega),c9 hk];by_cases h:L[k]=w
  ·rw [decide_eq_true h,if_pos rfl];exact ⟨λhh=>absurd (by rw [h]) hh,λ_=>rfl⟩
  ·rw [decide_eq_false h,if_neg (by decide)];exact ⟨λ_=>rfl,λhh=>absurd (λe=>h (BY e)) hh⟩
 ·unfold wF;rw [if_neg (by omega)]
theorem ae7 {L:List aq}{w:aq}:sb w∈L.map sb↔w∈L:=by rw [List.mem_map];exact ⟨λ⟨x,hx,e⟩=>by rw [<-ae5.1 e];exact hx,λh=>⟨w,h,rfl⟩⟩
def rO (L:List aq)(w:aq):List aq×Int:=if bA w.Path=false then (L,13) else if w.Client<0 then (L,1) else if w∈L then (L,0) else if 200<=L.length then (L,9) else (L++[w],0)
theorem Lm (L:List aq)(w:aq)(hl:L.length<2^60):eu L w=some (decide (w∈L)):=by
 unfold eu iy;have cw:aO (Loop (eL L w) 0) λr=>(r= .inl ()/\w∉L)\/ ∃k:Nat,r= .inr (k:Int)/\w∈L:=by
  refine aO.count (λk=>(k:Int)) L.length (λk=>w∉L.take k) rfl (by simp) (λk hk hp=> ?_) (λhp=> ?_)
  ·unfold eL;rw [if_pos (by omega),ba hk,ML,wrap64 (by omega) (by omega)];by_cases h:w=L[k]
   ·rw [decide_eq_true h,if_pos rfl];exact .mk (.inr ⟨k,rfl,by rw [h];exact List.getElem_mem hk⟩)
   ·rw [decide_eq_false h,if_neg (by decide)];refine .mk ⟨by omega,?_⟩;rw [List.take_add_one,c9 hk];simp only [Option.toList_some,List.mem_append,List.mem_singleton];rintro (h1|h1)
    ·exact hp h1
    ·exact h h1
  ·unfold eL;rw [if_neg (by omega)];rw [List.take_length] at hp;exact .mk (.inl ⟨rfl,hp⟩)
 obtain ⟨r,er,hr⟩:=cw;rw [er,av];rcases hr with ⟨rfl,h⟩|⟨k,rfl,h⟩
 ·dsimp only;rw [av,decide_eq_false h];rfl
 ·dsimp only;rw [av,decide_eq_true h,decide_eq_true (by omega)]
theorem abH (L:List aq)(w:aq)(hl:L.length<=1000):sZ ⟨L⟩ w=some (⟨(rO L w).1⟩,(rO L w).2):=by
 unfold sZ rO;rw [xi,av];cases hb:bA w.Path with
 |false=>rfl
 |true=>
  rw [if_neg (show¬(!true)=true by decide),if_neg (show¬true=false by decide)];by_cases hc:w.Client<0
  ·rw [if_pos hc,if_pos hc]
  rw [if_neg hc,if_neg hc,Lm _ _ (show L.length<2^60 by omega),av];by_cases hm:w∈L
  ·rw [decide_eq_true hm,if_pos rfl,if_pos hm]
  rw [decide_eq_false hm,if_neg (by decide),if_neg hm];dsimp only;by_cases h2:200<=L.length
  ·rw [if_pos (by omega),if_pos h2]
  have e0:kC 32 L=some L:=by unfold kC;rw [if_pos (by omega)]
  rw [if_neg (by omega),if_neg h2,e0,av,if_pos (by simp only [AT,sh];omega)]
theorem XD (L:List aq)(w:aq)(hl:L.length<=1000):DC ⟨L.map sb⟩ (sb w)=some (⟨(rO L w).1.map sb⟩,(rO L w).2):=by
 unfold DC rO;have e1:jZ (sb w).Path=some (bA w.Path):=rM w.Path;rw [e1,av];cases hb:bA w.Path with
 |false=>rfl
 |true=>
  rw [if_neg (show¬(!true)=true by decide),if_neg (show¬true=false by decide)];by_cases hc:w.Client<0
  ·have hc':(sb w).Client<0:=hc;rw [if_pos hc',if_pos hc]
  have hc': ¬(sb w).Client<0:=hc;have e2:Bg (L.map sb) (sb w)=some (decide (w∈L)):=by rw [XC _ _ (by rw [AI];omega)];congr 1;rw [decide_eq_decide,ae7]
  rw [if_neg hc',if_neg hc];dsimp only;rw [e2,av];by_cases hm:w∈L
  ·rw [decide_eq_true hm,if_pos rfl,if_pos hm]
  rw [decide_eq_false hm,if_neg (by decide),if_neg hm,AI];by_cases h2:200<=L.length
  ·rw [if_pos (by omega),if_pos h2]
  rw [if_neg (by omega),if_neg h2,if_pos (by simp only [sh];omega),By,if_pos (by simp only [AI,AT,sh];omega)];simp
theorem abI (l:List aG): ∀(L:List aq)(out:List bk),l.foldl AM (L,out)=((gY L l).1,out++(gY L l).2):=by
 induction l with
 |nil=>intro L out;simp [gY]
 |cons c l ih=>intro L out;unfold gY;rw [AS,AS];show l.foldl AM (nE c L,out++pL c L)=((l.foldl AM (nE c L,[]++pL c L)).1,out++(l.foldl AM (nE c L,[]++pL c L)).2);rw [ih,ih];simp
theorem Ko (L:List aq)(c:aG)(l:List aG):gY L (c::l)=((gY (nE c L) l).1,pL c L++(gY (nE c L) l).2):=by unfold gY;rw [AS];show l.foldl AM (nE c L,[]++pL c L)=_;rw [By,abI];rfl
end Dn.S
