import Derived.Test.YtbkodohojpchjaaGreatDoorDnPRealm2
/-
  Realms: an order, from a realm to a realm. Conditions: none.
-/
set_option linter.unusedVariables false
set_option linter.unusedSimpArgs false
open Go Dn
namespace Dn.S
structure V1 (r:qe):Prop extends V0 r where
 inc:El ag2 r.Seen
 few:r.Seen.length<=50
 seen: ∀x∈r.Seen,0<=x.Client/\x.Client<=1000/\1<=x.Seq
theorem SU (o:ab): ∃u,aK o=some u:=by unfold aK;repeat' (first|exact ⟨_,rfl⟩|(split<;>try simp only [aL]))
theorem Zz (o:ab):cm (cE o) λb=>b=true->(0<=o.Client/\o.Client<=1000)/\(1<=o.Seq/\o.Seq<=1000000000)/\(0<=o.Kind/\o.Kind<=11)/\o.Path.length<=100/\o.Value.length<=1000:=by
 unfold cE;obtain ⟨u,hu⟩:=SU o;rw [hu];by_cases h1:(0:Int)<=o.Client;rotate_left
 ·rw [if_neg h1,aL,if_neg (by decide),aL];exact .mk (λh=>by cases h)
 rw [if_pos h1];by_cases h2:o.Client<=1000;rotate_left
 ·rw [if_neg h2,aL,if_neg (by decide),aL];exact .mk (λh=>by cases h)
 rw [if_pos h2];by_cases h3:(1:Int)<=o.Seq;rotate_left
 ·rw [if_neg h3,aL,if_neg (by decide),aL];exact .mk (λh=>by cases h)
 rw [if_pos h3,aL];by_cases h4:o.Seq<=1000000000;rotate_left
 ·rw [decide_eq_false h4,if_neg (by decide),aL];exact .mk (λh=>by cases h)
 rw [decide_eq_true h4,if_pos rfl];by_cases h5:(0:Int)<=o.Kind;rotate_left
 ·rw [if_neg h5,aL];exact .mk (λh=>by cases h)
 rw [if_pos h5];by_cases h6:o.Kind<=11;rotate_left
 ·rw [if_neg h6,aL];exact .mk (λh=>by cases h)
 rw [if_pos h6];by_cases h7:(o.Path.length:Int)<=100;rotate_left
 ·rw [if_neg h7,aL];exact .mk (λh=>by cases h)
 rw [if_pos h7];by_cases h8:(o.Value.length:Int)<=1000;rotate_left
 ·rw [if_neg h8,aL];exact .mk (λh=>by cases h)
 rw [if_pos h8,aL,aL];exact .mk (λ_=>⟨⟨h1,h2⟩,⟨h3,h4⟩,⟨h5,h6⟩,by omega,by omega⟩)
noncomputable def SV (o:ab):Bool:=(cE o).getD false
theorem JM (o:ab):cE o=some (SV o):=by obtain ⟨b,hb,_⟩:=Zz o;unfold SV;rw [hb];rfl
end Dn.S
