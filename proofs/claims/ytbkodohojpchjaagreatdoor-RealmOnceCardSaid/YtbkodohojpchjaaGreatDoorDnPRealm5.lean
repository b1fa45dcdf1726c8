import Derived.Test.YtbkodohojpchjaaGreatDoorDnPRealm4
/-
  Realms: who is told asked for it. Conditions: none.
-/
open Go Dn
set_option linter.unusedVariables false
set_option linter.unusedSimpArgs false
namespace Dn.S
theorem Py {w v:ai} {k:Int} (h1:v.r.bg=w.r.bg) (h2:v.l=[]):(tO k v).r.bg=w.r.bg∧((tO k v).l≠[]→(tO k v).x.E=0):=by
 unfold tO
 split
 ·rename_i h;exact ⟨h1,fun _=>h⟩
 ·exact ⟨h1,fun hh=>absurd h2 hh⟩
theorem aha {w:ai} (hp:ek w.r) (hk:0≤w.o.Kind∧w.o.Kind≤11) (hl:w.l=[]):
 ((Pw w).r.bg=w.r.bg∧((Pw w).l≠[]→(Pw w).x.E=0))∨((w.o.Kind=10∨w.o.Kind=11)∧(Pw w).l=[]∧(Pw w).r.bg.L=(CD w.r.bg.L (tj w.o)).1):=by
 have Nd: ∀v:ai,v.r.bg=w.r.bg→v.l=[]→v.r.bg=w.r.bg∧(v.l≠[]→v.x.E=0):=fun v h1 h2=>⟨h1,fun h=>absurd h2 h⟩
 unfold Pw
 split
 ·exact .inl (Nd _ rfl hl)
 split
 ·left
  unfold yT
  split
  ·exact Nd _ rfl hl
  ·exact Py rfl hl
 split
 ·exact .inl (Nd _ rfl hl)
 split
 ·left
  unfold SR M8
  have hc:=Py (w:=w) (v:=oM w (BE w.r.Shelf.L w.o.Path w.o.Value w.o.Version)) (k:=2) rfl hl
  split<;>exact hc
 split
 ·exact .inl (Py rfl hl)
 split
 ·exact .inl (Nd _ rfl hl)
 split
 ·exact .inl (Nd _ rfl hl)
 split
 ·exact .inl (Nd _ rfl hl)
 split
 ·left
  unfold CG
  split
  ·rename_i hz
   exact ⟨rfl,fun _=>hz⟩
  ·exact Nd _ rfl hl
 split
 ·left
  unfold Jr
  split
  ·rename_i he
   obtain ⟨h1,h2,h3,h4,h5,h6⟩:=yc (zL w.r.br w.o.Span) (v:=ya w) (mX hp (KU hp.book he))
   exact ⟨h6,fun _=>by rw [h3];rfl⟩
  ·exact Nd _ rfl hl
 ·rename_i h0 h1 h2 h3 h4 h5 h6 h7 h8 h9
  exact .inr ⟨by omega,hl,rfl⟩
theorem W0 (L:List al):kD L []=(L,[]):=rfl
theorem GR {r:ak} (h:en r) (o:au):
 (∀e∈(bk r o).2.2,e.W∈r.bg.L∧oL e.C e.W=true∧(bk r o).2.1.E=0)∧
 (∀x∈(bk r o).1.bg.L,x∈r.bg.L∨(x=tj o∧(o.Kind=10∨o.Kind=11)))∧
 ((bk r o).1.bg.L.length+(bk r o).2.2.length=r.bg.L.length∨((bk r o).2.2=[]∧(bk r o).1.bg.L.length=r.bg.L.length+1)):=by
 unfold bk
 cases hk:(cD r.Seen o).2 with
 |true=>exact ⟨fun e he=>(by cases he),fun x hx=> .inl hx,.inl rfl⟩
 |false=>
  rw [if_neg (by decide)]
  obtain ⟨hm,BZ,BM,uR⟩:=oN hk
  have hp:=KV hm
  dsimp only
  rcases aha (w:=⟨r,o,(cD r.Seen o).1,[]⟩) h.toek hp.2.2.1 rfl with ⟨h1,h2⟩|⟨h1,h2,h3⟩
  ·have h1:(fO r o).r.bg=r.bg:=h1
   have h2:(fO r o).l≠[]→(fO r o).x.E=0:=h2
   rw [h1]
   refine ⟨fun e he=> ?_,fun x hx=> ?_,.inl (Jo _ _)⟩
   ·obtain ⟨g1,g2⟩:=ac9 _ _ e he
    refine ⟨g1,?_,h2 fun hn=> ?_⟩
    ·have:=List.find?_some g2
     exact this
    ·rw [hn] at he;cases he
   ·rw [QP] at hx
    exact .inl (List.mem_filter.1 hx).1
  ·have h2:(fO r o).l=[]:=h2
   have h3:(fO r o).r.bg.L=(CD r.bg.L (tj o)).1:=h3
   have h1:o.Kind=10∨o.Kind=11:=h1
   rw [h2,W0,h3]
   refine ⟨fun e he=>(by cases he),fun x hx=> ?_,?_⟩
   ·unfold CD at hx
    split at hx
    ·exact .inl hx
    split at hx
    ·exact .inl hx
    split at hx
    ·exact .inl hx
    split at hx
    ·exact .inl hx
    rcases List.mem_append.1 hx with hx|hx
    ·exact .inl hx
    ·exact .inr ⟨List.mem_singleton.1 hx,h1⟩
   ·unfold CD
    split
    ·exact .inl rfl
    split
    ·exact .inl rfl
    split
    ·exact .inl rfl
    split
    ·exact .inl rfl
    exact .inr ⟨rfl,by simp⟩
end Dn.S
