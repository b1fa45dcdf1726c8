import Derived.Test.YtbkodohojpchjaaGreatDoorDnPRealm4
/-
  Realms: who is told asked for it. Conditions: none.
-/
open Go Dn
set_option linter.unusedVariables false
set_option linter.unusedSimpArgs false
namespace Dn.S
theorem Pa {w v:ai} {k:Int} (h1:v.r.bh=w.r.bh) (h2:v.l=[]):(qa k v).r.bh=w.r.bh∧((qa k v).l≠[]→(qa k v).x.E=0):=by
 unfold qa
 split
 ·rename_i h;exact ⟨h1,fun _=>h⟩
 ·exact ⟨h1,fun hh=>absurd h2 hh⟩
theorem ag7 {w:ai} (hp:eD w.r) (hk:0≤w.o.Kind∧w.o.Kind≤11) (hl:w.l=[]):
 ((O8 w).r.bh=w.r.bh∧((O8 w).l≠[]→(O8 w).x.E=0))∨((w.o.Kind=10∨w.o.Kind=11)∧(O8 w).l=[]∧(O8 w).r.bh.L=(Cs w.r.bh.L (s8 w.o)).1):=by
 have MW: ∀v:ai,v.r.bh=w.r.bh→v.l=[]→v.r.bh=w.r.bh∧(v.l≠[]→v.x.E=0):=fun v h1 h2=>⟨h1,fun h=>absurd h2 h⟩
 unfold O8
 split
 ·exact .inl (MW _ rfl hl)
 split
 ·left
  unfold Bw
  split
  ·exact MW _ rfl hl
  ·exact Pa rfl hl
 split
 ·exact .inl (MW _ rfl hl)
 split
 ·left
  unfold HM MO
  have hc:=Pa (w:=w) (v:=lj w (gZ w.r.Shelf.L w.o.Path w.o.Value w.o.Version)) (k:=2) rfl hl
  split<;>exact hc
 split
 ·exact .inl (Pa rfl hl)
 split
 ·exact .inl (MW _ rfl hl)
 split
 ·exact .inl (MW _ rfl hl)
 split
 ·exact .inl (MW _ rfl hl)
 split
 ·left
  unfold GM
  split
  ·rename_i hz
   exact ⟨rfl,fun _=>hz⟩
  ·exact MW _ rfl hl
 split
 ·left
  unfold MP
  split
  ·rename_i he
   obtain ⟨h1,h2,h3,h4,h5,h6⟩:=Dg (Bv w.r.bt w.o.Span) (v:=Ab w) (oK hp (Qw hp.book he))
   exact ⟨h6,fun _=>by rw [h3];rfl⟩
  ·exact MW _ rfl hl
 ·rename_i h0 h1 h2 h3 h4 h5 h6 h7 h8 h9
  exact .inr ⟨by omega,hl,rfl⟩
theorem WA (L:List al):kC L []=(L,[]):=rfl
theorem GR {r:ak} (h:fM r) (o:av):
 (∀e∈(cm r o).2.2,e.W∈r.bh.L∧oJ e.C e.W=true∧(cm r o).2.1.E=0)∧
 (∀x∈(cm r o).1.bh.L,x∈r.bh.L∨(x=s8 o∧(o.Kind=10∨o.Kind=11)))∧
 ((cm r o).1.bh.L.length+(cm r o).2.2.length=r.bh.L.length∨((cm r o).2.2=[]∧(cm r o).1.bh.L.length=r.bh.L.length+1)):=by
 unfold cm
 cases hk:(hU r.Seen o).2 with
 |true=>exact ⟨fun e he=>(by cases he),fun x hx=> .inl hx,.inl rfl⟩
 |false=>
  rw [if_neg (by decide)]
  obtain ⟨hm,K6,DQ,wK⟩:=Cw hk
  have hp:=KG hm
  dsimp only
  rcases ag7 (w:=⟨r,o,(hU r.Seen o).1,[]⟩) h.toeD hp.2.2.1 rfl with ⟨h1,h2⟩|⟨h1,h2,h3⟩
  ·have h1:(fE r o).r.bh=r.bh:=h1
   have h2:(fE r o).l≠[]→(fE r o).x.E=0:=h2
   rw [h1]
   refine ⟨fun e he=> ?_,fun x hx=> ?_,.inl (Jf _ _)⟩
   ·obtain ⟨g1,g2⟩:=acF _ _ e he
    refine ⟨g1,?_,h2 fun hn=> ?_⟩
    ·have:=List.find?_some g2
     exact this
    ·rw [hn] at he;cases he
   ·rw [Qr] at hx
    exact .inl (List.mem_filter.1 hx).1
  ·have h2:(fE r o).l=[]:=h2
   have h3:(fE r o).r.bh.L=(Cs r.bh.L (s8 o)).1:=h3
   have h1:o.Kind=10∨o.Kind=11:=h1
   rw [h2,WA,h3]
   refine ⟨fun e he=>(by cases he),fun x hx=> ?_,?_⟩
   ·unfold Cs at hx
    split at hx
    ·exact .inl hx
    split at hx
    ·exact .inl hx
    split at hx
    ·exact .inl hx
    split at hx
    ·exact .inl hx
    rcases List.mem_append.1 hx with hx|hx
    ·exact .inl hx
    ·exact .inr ⟨List.mem_singleton.1 hx,h1⟩
   ·unfold Cs
    split
    ·exact .inl rfl
    split
    ·exact .inl rfl
    split
    ·exact .inl rfl
    split
    ·exact .inl rfl
    exact .inr ⟨rfl,by simp⟩
end Dn.S
