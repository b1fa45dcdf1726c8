import Derived.Test.YtbkodohojpchjaaGreatDoorDnPWatch2
/- Watches: each fires once at most; a cancelled watch is not. Conditions: none. -/
set_option linter.unusedVariables false
set_option linter.unusedSimpArgs false
open List renaming mem_filter→bN
open Go Dn
namespace Dn.S
theorem US (l:List aD): ∀L:List ar,(lL L l).1=L.filter (λw=>!l.any λc=>qk c w):=by
 induction l with
 |nil=>intro L;exact (List.filter_eq_self.2 λa _=>rfl).symm
 |cons c l ih=>intro L;rw [JY];dsimp only;rw [ih];unfold vj;rw [List.filter_filter];congr 1;funext w;rw [List.any_cons];cases qk c w<;>simp
theorem ahW (l:List aD): ∀(L:List ar) (e:a7),e∈(lL L l).2->e.W∈L/\l.find? (λc=>qk c e.W)=some e.C:=by
 induction l with
 |nil=>intro L e h;exact absurd h (by simp [lL])
 |cons c l ih=>
  intro L e h;rw [JY] at h;rcases List.mem_append.1 h with h|h
  ·unfold yP at h;obtain ⟨w,hw,rfl⟩:=List.mem_map.1 h;obtain ⟨h1,h2⟩:=bN.1 hw;exact ⟨h1,List.find?_cons_of_pos h2⟩
  ·obtain ⟨h1,h2⟩:=ih _ _ h;unfold vj at h1;obtain ⟨h3,h4⟩:=bN.1 h1;refine ⟨h3,?_⟩;rw [List.find?_cons_of_neg (by simpa using h4)];exact h2
end Dn.S
