import Derived.Test.YtbkodohojpchjaaGreatDoorDnPRealm4
/- Realms: who is told asked for it. Conditions: none. -/
set_option linter.unusedVariables false
set_option linter.unusedSimpArgs false
open Go Dn
namespace Dn.S
theorem S6 {w v:ah}{k:Int}(h1:v.r.bJ=w.r.bJ)(h2:v.l=[]):(vY k v).r.bJ=w.r.bJ/\((vY k v).l≠[]->(vY k v).x.E=0):=by
 unfold vY;split
 ·rename_i h;exact ⟨h1,λ_=>h⟩
 ·exact ⟨h1,λhh=>absurd h2 hh⟩
theorem amj {w:ah}(hp:eA w.r)(hk:0<=w.o.Kind/\w.o.Kind<=11)(hl:w.l=[]): ((S5 w).r.bJ=w.r.bJ/\((S5 w).l≠[]->(S5 w).x.E=0))\/((w.o.Kind=10\/w.o.Kind=11)/\(S5 w).l=[]/\(S5 w).r.bJ.L=(EW w.r.bJ.L (vk w.o)).1):=by
 have QR: ∀v:ah,v.r.bJ=w.r.bJ->v.l=[]->v.r.bJ=w.r.bJ/\(v.l≠[]->v.x.E=0):=λv h1 h2=>⟨h1,λh=>absurd h2 h⟩
 unfold S5;split
 ·exact .inl (QR _ rfl hl)
 split
 ·left;unfold Bc;split
  ·exact QR _ rfl hl
  ·exact S6 rfl hl
 split
 ·exact .inl (QR _ rfl hl)
 split
 ·left;unfold WY QO;have hc:=S6 (w:=w) (v:=ql w (DR w.r.Shelf.L w.o.Path w.o.Value w.o.Version)) (k:=2) rfl hl;split<;>exact hc
 split
 ·exact .inl (S6 rfl hl)
 split
 ·exact .inl (QR _ rfl hl)
 split
 ·exact .inl (QR _ rfl hl)
 split
 ·exact .inl (QR _ rfl hl)
 split
 ·left;unfold EZ;split
  ·rename_i hz;exact ⟨rfl,λ_=>hz⟩
  ·exact QR _ rfl hl
 split
 ·left;unfold MP;split
  ·rename_i he;obtain ⟨h1,h2,h3,h4,h5,h6⟩:=AA (BS w.r.ca w.o.Span) (v:=Ay w) (od hp (Oz hp.book he));exact ⟨h6,λ_=>by rw [h3];rfl⟩
  ·exact QR _ rfl hl
 ·rename_i h0 h1 h2 h3 h4 h5 h6 h7 h8 h9;exact .inr ⟨by omega,hl,rfl⟩
theorem abu (L:List ar):lL L []=(L,[]):=rfl
theorem J5 {r:al}(h:dQ r)(o:aa): (∀e∈(cK r o).2.2,e.W∈r.bJ.L/\qk e.C e.W=true/\(cK r o).2.1.E=0)/\ (∀x∈(cK r o).1.bJ.L,x∈r.bJ.L\/(x=vk o/\(o.Kind=10\/o.Kind=11)))/\ ((cK r o).1.bJ.L.length+(cK r o).2.2.length=r.bJ.L.length\/((cK r o).2.2=[]/\(cK r o).1.bJ.L.length=r.bJ.L.length+1)):=by
 unfold cK;cases hk:(dp r.Seen o).2 with
 |true=>exact ⟨λe he=>(by cases he),λx hx=> .inl hx,.inl rfl⟩
 |false=>
  rw [if_neg (by decide)];obtain ⟨hm,zo,CE,sv⟩:=sH hk;have hp:=OA hm;dsimp only;rcases amj (w:=⟨r,o,(dp r.Seen o).1,[]⟩) h.toeA hp.2.2.1 rfl with ⟨h1,h2⟩|⟨h1,h2,h3⟩
  ·have h1:(jA r o).r.bJ=r.bJ:=h1;have h2:(jA r o).l≠[]->(jA r o).x.E=0:=h2;rw [h1];refine ⟨λe he=> ?_,λx hx=> ?_,.inl (MM _ _)⟩
   ·obtain ⟨g1,g2⟩:=ahW _ _ e he;refine ⟨g1,?_,h2 λhn=> ?_⟩
    ·have:=List.find?_some g2;exact this
    ·rw [hn] at he;cases he
   ·rw [US] at hx;exact .inl (List.mem_filter.1 hx).1
  ·have h2:(jA r o).l=[]:=h2;have h3:(jA r o).r.bJ.L=(EW r.bJ.L (vk o)).1:=h3;have h1:o.Kind=10\/o.Kind=11:=h1;rw [h2,abu,h3];refine ⟨λe he=>(by cases he),λx hx=> ?_,?_⟩
   ·unfold EW at hx;split at hx
    ·exact .inl hx
    split at hx
    ·exact .inl hx
    split at hx
    ·exact .inl hx
    split at hx
    ·exact .inl hx
    rcases List.mem_append.1 hx with hx|hx
    ·exact .inl hx
    ·exact .inr ⟨List.mem_singleton.1 hx,h1⟩
   ·unfold EW;split
    ·exact .inl rfl
    split
    ·exact .inl rfl
    split
    ·exact .inl rfl
    split
    ·exact .inl rfl
    exact .inr ⟨rfl,by simp⟩
end Dn.S
