import Derived.Test.YtbkodohojpchjaaGreatDoorDnPWatch2
/-
  Watches: each fires once at most; a cancelled watch is not told. Conditions: none.
-/
open Go Dn
set_option linter.unusedVariables false
set_option linter.unusedSimpArgs false
namespace Dn.S
theorem QP (l:List aE): ∀L:List al,(kD L l).1=L.filter (fun w=>!l.any fun c=>oL c w):=by
 induction l with
 |nil=>intro L;exact (List.filter_eq_self.2 fun a _=>rfl).symm
 |cons c l ih=>
  intro L
  rw [GK]
  dsimp only
  rw [ih]
  unfold th
  rw [List.filter_filter]
  congr 1
  funext w
  rw [List.any_cons]
  cases oL c w<;>simp
theorem ac9 (l:List aE): ∀(L:List al) (e:ba),e∈(kD L l).2→e.W∈L∧l.find? (fun c=>oL c e.W)=some e.C:=by
 induction l with
 |nil=>intro L e h;exact absurd h (by simp [kD])
 |cons c l ih=>
  intro L e h
  rw [GK] at h
  rcases List.mem_append.1 h with h|h
  ·unfold wK at h
   obtain ⟨w,hw,rfl⟩:=List.mem_map.1 h
   obtain ⟨h1,h2⟩:=List.mem_filter.1 hw
   exact ⟨h1,List.find?_cons_of_pos h2⟩
  ·obtain ⟨h1,h2⟩:=ih _ _ h
   unfold th at h1
   obtain ⟨h3,h4⟩:=List.mem_filter.1 h1
   refine ⟨h3,?_⟩
   rw [List.find?_cons_of_neg (by simpa using h4)]
   exact h2
end Dn.S
