import Derived.Test.YtbkodohojpchjaaGreatDoorDnPRealm4
/-
  Realms: who is told asked for it. Conditions: none.
-/
set_option linter.unusedVariables false
set_option linter.unusedSimpArgs false
open Go Dn
namespace Dn.S
theorem Uk {w v:ai}{k:Int}(h1:v.r.aR=w.r.aR)(h2:v.l=[]):(r6 k v).r.aR=w.r.aR/\((r6 k v).l≠[]->(r6 k v).x.E=0):=by
 unfold r6;split
 ·rename_i h;exact ⟨h1,λ_=>h⟩
 ·exact ⟨h1,λhh=>absurd h2 hh⟩
theorem amY {w:ai}(hp:eF w.r)(hk:0<=w.o.Kind/\w.o.Kind<=11)(hl:w.l=[]): ((A9 w).r.aR=w.r.aR/\((A9 w).l≠[]->(A9 w).x.E=0))\/((w.o.Kind=10\/w.o.Kind=11)/\(A9 w).l=[]/\(A9 w).r.aR.L=(rJ w.r.aR.L (iF w.o)).1):=by
 have RN: ∀v:ai,v.r.aR=w.r.aR->v.l=[]->v.r.aR=w.r.aR/\(v.l≠[]->v.x.E=0):=λv h1 h2=>⟨h1,λh=>absurd h2 h⟩
 unfold A9;split
 ·exact .inl (RN _ rfl hl)
 split
 ·left;unfold y9;split
  ·exact RN _ rfl hl
  ·exact Uk rfl hl
 split
 ·exact .inl (RN _ rfl hl)
 split
 ·left;unfold RF M1;have hc:=Uk (w:=w) (v:=lp w (xx w.r.Shelf.L w.o.Path w.o.Value w.o.Version)) (k:=2) rfl hl;split<;>exact hc
 split
 ·exact .inl (Uk rfl hl)
 split
 ·exact .inl (RN _ rfl hl)
 split
 ·exact .inl (RN _ rfl hl)
 split
 ·exact .inl (RN _ rfl hl)
 split
 ·left;unfold A8;split
  ·rename_i hz;exact ⟨rfl,λ_=>hz⟩
  ·exact RN _ rfl hl
 split
 ·left;unfold GG;split
  ·rename_i he;obtain ⟨h1,h2,h3,h4,h5,h6⟩:=vB (pZ w.r.aN w.o.Span) (v:=ux w) (mE hp (HF hp.book he));exact ⟨h6,λ_=>by rw [h3];rfl⟩
  ·exact RN _ rfl hl
 ·rename_i h0 h1 h2 h3 h4 h5 h6 h7 h8 h9;exact .inr ⟨by omega,hl,rfl⟩
theorem acm (L:List aq):gY L []=(L,[]):=rfl
theorem acn {r:au}(h:iG r)(o:aB): (∀e∈(iH r o).2.2,e.W∈r.aR.L/\jg e.C e.W=true/\(iH r o).2.1.E=0)/\ (∀x∈(iH r o).1.aR.L,x∈r.aR.L\/(x=iF o/\(o.Kind=10\/o.Kind=11)))/\ ((iH r o).1.aR.L.length+(iH r o).2.2.length=r.aR.L.length\/((iH r o).2.2=[]/\(iH r o).1.aR.L.length=r.aR.L.length+1)):=by
 unfold iH;cases hk:(fJ r.Seen o).2 with
 |true=>exact ⟨λe he=>(by cases he),λx hx=> .inl hx,.inl rfl⟩
 |false=>
  rw [if_neg (by decide)];obtain ⟨hm,E5,Bh,sr⟩:=BT hk;have hp:=HG hm;dsimp only;rcases amY (w:=⟨r,o,(fJ r.Seen o).1,[]⟩) h.toeF hp.2.2.1 rfl with ⟨h1,h2⟩|⟨h1,h2,h3⟩
  ·have h1:(gZ r o).r.aR=r.aR:=h1;have h2:(gZ r o).l≠[]->(gZ r o).x.E=0:=h2;rw [h1];refine ⟨λe he=> ?_,λx hx=> ?_,.inl (FO _ _)⟩
   ·obtain ⟨g1,g2⟩:=ai4 _ _ e he;refine ⟨g1,?_,h2 λhn=> ?_⟩
    ·have:=List.find?_some g2;exact this
    ·rw [hn] at he;cases he
   ·rw [VU] at hx;exact .inl (List.mem_filter.1 hx).1
  ·have h2:(gZ r o).l=[]:=h2;have h3:(gZ r o).r.aR.L=(rJ r.aR.L (iF o)).1:=h3;have h1:o.Kind=10\/o.Kind=11:=h1;rw [h2,acm,h3];refine ⟨λe he=>(by cases he),λx hx=> ?_,?_⟩
   ·unfold rJ at hx;split at hx
    ·exact .inl hx
    split at hx
    ·exact .inl hx
    split at hx
    ·exact .inl hx
    split at hx
    ·exact .inl hx
    rcases List.mem_append.1 hx with hx|hx
    ·exact .inl hx
    ·exact .inr ⟨List.mem_singleton.1 hx,h1⟩
   ·unfold rJ;split
    ·exact .inl rfl
    split
    ·exact .inl rfl
    split
    ·exact .inl rfl
    split
    ·exact .inl rfl
    exact .inr ⟨rfl,by simp⟩
end Dn.S
