import Derived.Test.YtbkodohojpchjaaGreatDoorDnPRealm4
/-
  Realms: who is told asked for it. Conditions: none.
-/
set_option linter.unusedVariables false
set_option linter.unusedSimpArgs false
open Go Dn
namespace Dn.S
theorem T0 {w v:aj}{k:Int}(h1:v.r.aS=w.r.aS)(h2:v.l=[]):(sd k v).r.aS=w.r.aS/\((sd k v).l≠[]->(sd k v).x.E=0):=by
 unfold sd;split
 ·rename_i h;exact ⟨h1,λ_=>h⟩
 ·exact ⟨h1,λhh=>absurd h2 hh⟩
theorem amI {w:aj}(hp:eH w.r)(hk:0<=w.o.Kind/\w.o.Kind<=11)(hl:w.l=[]): ((AP w).r.aS=w.r.aS/\((AP w).l≠[]->(AP w).x.E=0))\/((w.o.Kind=10\/w.o.Kind=11)/\(AP w).l=[]/\(AP w).r.aS.L=(rO w.r.aS.L (iF w.o)).1):=by
 have RE: ∀v:aj,v.r.aS=w.r.aS->v.l=[]->v.r.aS=w.r.aS/\(v.l≠[]->v.x.E=0):=λv h1 h2=>⟨h1,λh=>absurd h2 h⟩
 unfold AP;split
 ·exact .inl (RE _ rfl hl)
 split
 ·left;unfold yO;split
  ·exact RE _ rfl hl
  ·exact T0 rfl hl
 split
 ·exact .inl (RE _ rfl hl)
 split
 ·left;unfold Rw MN;have hc:=T0 (w:=w) (v:=lu w (xm w.r.Shelf.L w.o.Path w.o.Value w.o.Version)) (k:=2) rfl hl;split<;>exact hc
 split
 ·exact .inl (T0 rfl hl)
 split
 ·exact .inl (RE _ rfl hl)
 split
 ·exact .inl (RE _ rfl hl)
 split
 ·exact .inl (RE _ rfl hl)
 split
 ·left;unfold AO;split
  ·rename_i hz;exact ⟨rfl,λ_=>hz⟩
  ·exact RE _ rfl hl
 split
 ·left;unfold GF;split
  ·rename_i he;obtain ⟨h1,h2,h3,h4,h5,h6⟩:=vz (p0 w.r.aL w.o.Span) (v:=uv w) (mz hp (HK hp.book he));exact ⟨h6,λ_=>by rw [h3];rfl⟩
  ·exact RE _ rfl hl
 ·rename_i h0 h1 h2 h3 h4 h5 h6 h7 h8 h9;exact .inr ⟨by omega,hl,rfl⟩
theorem abX (L:List aq):gY L []=(L,[]):=rfl
theorem EJ {r:ap}(h:e8 r)(o:ar): (∀e∈(dV r o).2.2,e.W∈r.aS.L/\jh e.C e.W=true/\(dV r o).2.1.E=0)/\ (∀x∈(dV r o).1.aS.L,x∈r.aS.L\/(x=iF o/\(o.Kind=10\/o.Kind=11)))/\ ((dV r o).1.aS.L.length+(dV r o).2.2.length=r.aS.L.length\/((dV r o).2.2=[]/\(dV r o).1.aS.L.length=r.aS.L.length+1)):=by
 unfold dV;cases hk:(fI r.Seen o).2 with
 |true=>exact ⟨λe he=>(by cases he),λx hx=> .inl hx,.inl rfl⟩
 |false=>
  rw [if_neg (by decide)];obtain ⟨hm,EW,A3,sE⟩:=BB hk;have hp:=HL hm;dsimp only;rcases amI (w:=⟨r,o,(fI r.Seen o).1,[]⟩) h.toeH hp.2.2.1 rfl with ⟨h1,h2⟩|⟨h1,h2,h3⟩
  ·have h1:(gZ r o).r.aS=r.aS:=h1;have h2:(gZ r o).l≠[]->(gZ r o).x.E=0:=h2;rw [h1];refine ⟨λe he=> ?_,λx hx=> ?_,.inl (FJ _ _)⟩
   ·obtain ⟨g1,g2⟩:=aiR _ _ e he;refine ⟨g1,?_,h2 λhn=> ?_⟩
    ·have:=List.find?_some g2;exact this
    ·rw [hn] at he;cases he
   ·rw [VD] at hx;exact .inl (List.mem_filter.1 hx).1
  ·have h2:(gZ r o).l=[]:=h2;have h3:(gZ r o).r.aS.L=(rO r.aS.L (iF o)).1:=h3;have h1:o.Kind=10\/o.Kind=11:=h1;rw [h2,abX,h3];refine ⟨λe he=>(by cases he),λx hx=> ?_,?_⟩
   ·unfold rO at hx;split at hx
    ·exact .inl hx
    split at hx
    ·exact .inl hx
    split at hx
    ·exact .inl hx
    split at hx
    ·exact .inl hx
    rcases List.mem_append.1 hx with hx|hx
    ·exact .inl hx
    ·exact .inr ⟨List.mem_singleton.1 hx,h1⟩
   ·unfold rO;split
    ·exact .inl rfl
    split
    ·exact .inl rfl
    split
    ·exact .inl rfl
    split
    ·exact .inl rfl
    exact .inr ⟨rfl,by simp⟩
end Dn.S
