import Derived.Test.YtbkodohojpchjaaGreatDoorDnPWatch
/- Watches: which tables may be; what they come. Conditions: none. -/
set_option linter.unusedVariables false
set_option linter.unusedSimpArgs false
open List renaming foldl_cons→bN
open Go Dn
namespace Dn.S
structure JX (L:List ar):Prop where
 len:L.length<=200
 all: ∀w∈L,bX w.Path=true/\0<=w.Client
 nodup:L.Nodup
def EW (L:List ar)(w:ar):List ar×Int:=if bX w.Path=false then (L,13) else if w.Client<0 then (L,1) else if w∈L then (L,0) else if 200<=L.length then (L,9) else (L++[w],0)
theorem Ld (L:List ar)(w:ar)(hl:L.length<2^60):dG L w=some (decide (w∈L)):=by
 unfold dG gD;have ke:bG (Loop (dV L w) 0) λr=>(r= .inl ()/\w∉L)\/ ∃k:Nat,r= .inr (k:Int)/\w∈L:=by
  refine bG.count (λk=>(k:Int)) L.length (λk=>w∉L.take k) rfl (by simp) (λk hk hp=> ?_) (λhp=> ?_)
  ·unfold dV;rw [if_pos (by omega),b7 hk,ML,wrap64 (by omega) (by omega)];by_cases h:w=L[k]
   ·rw [decide_eq_true h,if_pos rfl];exact .mk (.inr ⟨k,rfl,by rw [h];exact List.getElem_mem hk⟩)
   ·rw [decide_eq_false h,if_neg (by decide)];refine .mk ⟨by omega,?_⟩;rw [List.take_add_one,List.getElem?_eq_getElem hk];simp only [Option.toList_some,List.mem_append,List.mem_singleton];rintro (h1|h1)
    ·exact hp h1
    ·exact h h1
  ·unfold dV;rw [if_neg (by omega)];rw [List.take_length] at hp;exact .mk (.inl ⟨rfl,hp⟩)
 obtain ⟨r,er,hr⟩:=ke;rw [er,az];rcases hr with ⟨rfl,h⟩|⟨k,rfl,h⟩
 ·dsimp only;rw [az,decide_eq_false h];rfl
 ·dsimp only;rw [az,decide_eq_true h,decide_eq_true (by omega)]
theorem abb (L:List ar)(w:ar)(hl:L.length<=1000):sB ⟨L⟩ w=some (⟨(EW L w).1⟩,(EW L w).2):=by
 unfold sB EW;rw [wW,az];cases hb:bX w.Path with
 |false=>rfl
 |true=>
  rw [if_neg (show¬(!true)=true by decide),if_neg (show¬true=false by decide)];by_cases hc:w.Client<0
  ·rw [if_pos hc,if_pos hc]
  rw [if_neg hc,if_neg hc,Ld _ _ (show L.length<2^60 by omega),az];by_cases hm:w∈L
  ·rw [decide_eq_true hm,if_pos rfl,if_pos hm]
  rw [decide_eq_false hm,if_neg (by decide),if_neg hm];dsimp only;by_cases h2:200<=L.length
  ·rw [if_pos (by omega),if_pos h2]
  have e0:kC 32 L=some L:=by unfold kC;rw [if_pos (by omega)]
  rw [if_neg (by omega),if_neg h2,e0,az,if_pos (by simp only [List.length_cons,List.length_nil];omega)]
theorem abc (l:List aD): ∀(L:List ar) (out:List a7),l.foldl BQ (L,out)=((lL L l).1,out++(lL L l).2):=by
 induction l with
 |nil=>intro L out;simp [lL]
 |cons c l ih=>intro L out;unfold lL;rw [bN,bN];show l.foldl BQ (vj c L,out++yP c L)=((l.foldl BQ (vj c L,[]++yP c L)).1,out++(l.foldl BQ (vj c L,[]++yP c L)).2);rw [ih,ih];simp
theorem JY (L:List ar)(c:aD)(l:List aD):lL L (c::l)=((lL (vj c L) l).1,yP c L++(lL (vj c L) l).2):=by unfold lL;rw [bN];show l.foldl BQ (vj c L,[]++yP c L)=_;rw [List.nil_append,abc];rfl
end Dn.S
