import Derived.Test.YtbkodohojpchjaaGreatDoorDnPWatch
/-
  Watches: which tables may be; what they come to. Conditions: none.
-/
open Go Dn
set_option linter.unusedVariables false
set_option linter.unusedSimpArgs false
namespace Dn.S
structure DZ (L:List ak):Prop where
 len:L.length≤200
 all: ∀w∈L,bJ w.Path=true∧0≤w.Client
 nodup:L.Nodup
def Ao (L:List ak) (w:ak):List ak×Int:=
 if bJ w.Path=false then (L,13) else if w.Client<0 then (L,1) else if w∈L then (L,0) else if 200≤L.length then (L,9) else (L++[w],0)
theorem EX (L:List ak) (w:ak) (hl:L.length<2^60):db L w=some (decide (w∈L)):=by
 unfold db fe
 have iw:bV (Loop (dn L w) 0) fun r=>(r= .inl ()∧w∉L)∨ ∃k:Nat,r= .inr (k:Int)∧w∈L:=by
  refine bV.count (fun k=>(k:Int)) L.length (fun k=>w∉L.take k) rfl (by simp) (fun k hk hp=> ?_) (fun hp=> ?_)
  ·unfold dn
   rw [if_pos (by omega),cg hk,An,wrap64 (by omega) (by omega)]
   by_cases h:w=L[k]
   ·rw [decide_eq_true h,if_pos rfl]
    exact .mk (.inr ⟨k,rfl,by rw [h];exact List.getElem_mem hk⟩)
   ·rw [decide_eq_false h,if_neg (by decide)]
    refine .mk ⟨by omega,?_⟩
    rw [List.take_add_one,List.getElem?_eq_getElem hk]
    simp only [Option.toList_some,List.mem_append,List.mem_singleton]
    rintro (h1|h1)
    ·exact hp h1
    ·exact h h1
  ·unfold dn
   rw [if_neg (by omega)]
   rw [List.take_length] at hp
   exact .mk (.inl ⟨rfl,hp⟩)
 obtain ⟨r,er,hr⟩:=iw
 rw [er,aR]
 rcases hr with ⟨rfl,h⟩|⟨k,rfl,h⟩
 ·dsimp only
  rw [aR,decide_eq_false h];rfl
 ·dsimp only
  rw [aR,decide_eq_true h,decide_eq_true (by omega)]
theorem Sv (L:List ak) (w:ak) (hl:L.length≤1000):pv ⟨L⟩ w=some (⟨(Ao L w).1⟩,(Ao L w).2):=by
 unfold pv Ao
 rw [sZ,aR]
 cases hb:bJ w.Path with
 |false=>rfl
 |true=>
  rw [if_neg (show¬(!true)=true by decide),if_neg (show¬true=false by decide)]
  by_cases hc:w.Client<0
  ·rw [if_pos hc,if_pos hc]
  rw [if_neg hc,if_neg hc,EX _ _ (show L.length<2^60 by omega),aR]
  by_cases hm:w∈L
  ·rw [decide_eq_true hm,if_pos rfl,if_pos hm]
  rw [decide_eq_false hm,if_neg (by decide),if_neg hm]
  dsimp only
  by_cases h2:200≤L.length
  ·rw [if_pos (by omega),if_pos h2]
  have e0:iP 32 L=some L:=by unfold iP;rw [if_pos (by omega)]
  rw [if_neg (by omega),if_neg h2,e0,aR,if_pos (by simp only [List.length_cons,List.length_nil];omega)]
theorem Sw (l:List aA): ∀(L:List ak) (out:List bn),l.foldl xt (L,out)=((jU L l).1,out++(jU L l).2):=by
 induction l with
 |nil=>intro L out;simp [jU]
 |cons c l ih=>
  intro L out
  unfold jU
  rw [List.foldl_cons,List.foldl_cons]
  show l.foldl xt (ru c L,out++uF c L)=((l.foldl xt (ru c L,[]++uF c L)).1,out++(l.foldl xt (ru c L,[]++uF c L)).2)
  rw [ih,ih]
  simp
theorem D5 (L:List ak) (c:aA) (l:List aA):jU L (c::l)=((jU (ru c L) l).1,uF c L++(jU (ru c L) l).2):=by
 unfold jU
 rw [List.foldl_cons]
 show l.foldl xt (ru c L,[]++uF c L)=_
 rw [List.nil_append,Sw];rfl
end Dn.S
