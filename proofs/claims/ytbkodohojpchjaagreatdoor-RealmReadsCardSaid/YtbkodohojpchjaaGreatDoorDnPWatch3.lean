import Derived.Test.YtbkodohojpchjaaGreatDoorDnPWatch2
/-
  Watches: each fires once at most; a cancelled watch is not told. Conditions: none.
-/
open Go Dn
set_option linter.unusedVariables false
set_option linter.unusedSimpArgs false
namespace Dn.S
theorem Qr (l:List aF): ∀L:List al,(kC L l).1=L.filter (fun w=>!l.any fun c=>oJ c w):=by
 induction l with
 |nil=>intro L;exact (List.filter_eq_self.2 fun a _=>rfl).symm
 |cons c l ih=>
  intro L
  rw [GK]
  dsimp only
  rw [ih]
  unfold s7
  rw [List.filter_filter]
  congr 1
  funext w
  rw [List.any_cons]
  cases oJ c w<;>simp
theorem acF (l:List aF): ∀(L:List al) (e:bc),e∈(kC L l).2→e.W∈L∧l.find? (fun c=>oJ c e.W)=some e.C:=by
 induction l with
 |nil=>intro L e h;exact absurd h (by simp [kC])
 |cons c l ih=>
  intro L e h
  rw [GK] at h
  rcases List.mem_append.1 h with h|h
  ·unfold wo at h
   obtain ⟨w,hw,rfl⟩:=List.mem_map.1 h
   obtain ⟨h1,h2⟩:=List.mem_filter.1 hw
   exact ⟨h1,List.find?_cons_of_pos h2⟩
  ·obtain ⟨h1,h2⟩:=ih _ _ h
   unfold s7 at h1
   obtain ⟨h3,h4⟩:=List.mem_filter.1 h1
   refine ⟨h3,?_⟩
   rw [List.find?_cons_of_neg (by simpa using h4)]
   exact h2
end Dn.S
