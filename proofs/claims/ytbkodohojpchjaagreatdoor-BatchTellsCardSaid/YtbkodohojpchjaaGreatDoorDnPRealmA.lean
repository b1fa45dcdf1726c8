import Derived.Test.YtbkodohojpchjaaGreatDoorDnPRealm3
/-
  Realms: the live question. Conditions: none.
-/
set_option linter.unusedVariables false
set_option linter.unusedSimpArgs false
open List renaming mem_singleton→aQ
open Go Dn
namespace Dn.S
def ado:qe:=⟨⟨[⟨[47],[],0,0⟩]⟩,⟨0,[]⟩,⟨[]⟩,[]⟩
theorem RW:V1 ado:=by
 refine ⟨⟨⟨by decide,⟨λn hn=> ?_,by simp [ado]⟩,⟨_,aQ.2 rfl,rfl⟩,λn hn=> ?_,λn hn _=> ?_,λn hn hp=> ?_⟩,⟨by decide,by decide,List.Pairwise.nil,(λx hx=>by cases hx)⟩,⟨by decide,(λx hx=>by cases hx),List.nodup_nil⟩⟩,List.Pairwise.nil,by decide,(λx hx=>by cases hx)⟩
 ·rw [aQ.1 hn];decide
 ·rw [aQ.1 hn];decide
 ·rw [aQ.1 hn]
 ·rw [aQ.1 hn] at hp;exact absurd rfl hp
end Dn.S
