import Derived.Test.YtmdlghpieagfhaaGreatDnPLearn2
/-
  Learners: a proof heard; LearnerTurns. Conditions: none.
-/
set_option linter.unusedVariables false
set_option linter.unusedSimpArgs false
open List renaming length_nil→fj
open Go Dn
namespace Dn.S
theorem R4 (x:aa)(r:List aa):oq (x::r)=some (x.View,x.Value,true):=by unfold oq;rw [if_neg (by simp only [List.length_cons];omega),iK (by simp),iK (by simp)];rfl
theorem R5 {l:aq}(hr:kJ l)(hl:l.aP.L.length<2^31)(jg:Int)(p:List aa)(hp:p.length<2^32):jF l jg p=some (jZ l jg p):=by
 unfold jF jZ;obtain ⟨b,eb,hb⟩:=sq l.S p hp;rw [eb,ar];cases b with
 |false=>rw [if_pos (by decide),if_neg (λh=>by have:=hb.2 h;cases this)]
 |true=>
  have hy:=hb.1 rfl;rw [if_neg (by decide),if_pos hy];cases p with
  |nil=>have h1:=hy.len;have h2:=hr.sz.f1;have h3:=hr.sz.t0;simp only [fj] at h1;omega
  |cons x r=>
   rw [R4,ar,zU hr.sz,ar];unfold jc;rw [R3 l hr.sz ⟨jg,x.View,x.Value⟩,ar];by_cases h:iu l ⟨jg,x.View,x.Value⟩
   ·rw [decide_eq_true h,if_pos rfl,ar];simp only [if_pos h];rfl
   ·have e1:iU l.aP ⟨jg,x.View,x.Value⟩=some (⟨(ek l.aP.L ⟨jg,x.View,x.Value⟩).1⟩,(ek l.aP.L ⟨jg,x.View,x.Value⟩).2):=xa (L:=l.aP.L) (rT hr.com.2) (by omega);rw [decide_eq_false h,if_neg (by decide),e1,ar,MY hr.com.2 _ _ hl,ar,ar];simp only [if_neg h];unfold ic;cases kH (ek l.aP.L ⟨jg,x.View,x.Value⟩).1 (2 *l.S.F+l.S.T+1)<;>rfl
theorem Jr {l:aq}(hr:kJ l)(hl:l.aP.L.length<2^31)(jg:Int)(p:List aa)(hp:p.length<2^32):ov (Ez l) jg p=some (Ez (jZ l jg p)):=by
 unfold ov jZ;have eN:sL (Ez l).S=some (3 *l.S.F+2 *l.S.T+1):=uc hr.sz;have eF:pw (Ez l).S=some (2 *l.S.F+l.S.T+1):=BK hr.sz;obtain ⟨b,eb,hb⟩:=BL l.S p hp;have eP:kz (Ez l).S p=some b:=eb;rw [eN,ar,eP,ar,eF];have nod: ∀x:aa,l.bE=true->iu l ⟨jg,x.View,x.Value⟩:=λx h=> .inl h;by_cases hy:zW l.S p
 ·rw [if_pos hy];cases p with
  |nil=>have h1:=hy.len;have h2:=hr.sz.f1;have h3:=hr.sz.t0;simp only [fj] at h1;omega
  |cons x r=>
   have hx:rc x:=hy.tG.1 x (by simp);have EO:b=true:=hb.2 hy;have hw:(if (Ez l).bE then some true else if jg<0 then some true else if 3 *l.S.F+2 *l.S.T+1<=jg then some true else some (!b))=some (decide (iu l ⟨jg,x.View,x.Value⟩)):=by
    show (if l.bE=true then some true else _)=_;by_cases hd:l.bE=true
    ·rw [if_pos hd,decide_eq_true (nod x hd)]
    ·rw [if_neg hd];by_cases h0:jg<0
     ·rw [if_pos h0,decide_eq_true (show iu l ⟨jg,x.View,x.Value⟩ from .inr (.inr λh=>by have:0<=jg:=h.1;omega))]
     ·rw [if_neg h0];by_cases h1:3 *l.S.F+2 *l.S.T+1<=jg
      ·rw [if_pos h1,decide_eq_true (show iu l ⟨jg,x.View,x.Value⟩ from .inr (.inl (by unfold tF;exact h1)))]
      ·rw [if_neg h1,EO,decide_eq_false (p:=iu l ⟨jg,x.View,x.Value⟩)]
       ·rfl
       ·rintro (h|h|h)
        ·exact hd h
        ·exact h1 (by unfold tF at h;exact h)
        ·exact h ⟨show 0<=jg by omega,hx.2.1,hx.2.2.1,hx.2.2.2⟩
   rw [hw,ar];have eA:oS (Ez l).aP ⟨jg,x.View,x.Value⟩=some (⟨(ek l.aP.L ⟨jg,x.View,x.Value⟩).1⟩,(ek l.aP.L ⟨jg,x.View,x.Value⟩).2):=CC (L:=l.aP.L) (rT hr.com.2) (by omega);have hlen:=yJ (L:=l.aP.L) (a:=⟨jg,x.View,x.Value⟩);by_cases h:iu l ⟨jg,x.View,x.Value⟩
   ·rw [decide_eq_true h,if_pos rfl];simp only [if_pos h]
   ·rw [decide_eq_false h,if_neg (by decide),iK (by simp),iK (by simp)];show bd (oS (Ez l).aP ⟨jg,x.View,x.Value⟩) _=_;rw [eA,ar,ar];simp only [if_neg h];have:=z1 ⟨l.S,l.aO,⟨(ek l.aP.L ⟨jg,x.View,x.Value⟩).1⟩,l.Told,l.bE,l.Value⟩ (ek l.aP.L ⟨jg,x.View,x.Value⟩).1 (2 *l.S.F+l.S.T+1) (by omega);show bd (iP (Ez ⟨l.S,l.aO,⟨(ek l.aP.L ⟨jg,x.View,x.Value⟩).1⟩,l.Told,l.bE,l.Value⟩) ⟨(ek l.aP.L ⟨jg,x.View,x.Value⟩).1⟩ (2 *l.S.F+l.S.T+1)) _=_;rw [this,ar]
 ·rw [if_neg hy];have EO:b=false:=by cases b;rfl;exact absurd (hb.1 rfl) hy
  rw [EO];have hw:(if (Ez l).bE then some true else if jg<0 then some true else if 3 *l.S.F+2 *l.S.T+1<=jg then some true else some (!false))=some true:=by
   split
   ·rfl
   ·split
    ·rfl
    ·split<;>rfl
  rw [hw,ar,if_pos rfl]
def asZ (l:aq):Prop:=l.aO.L.length<2^60/\l.aP.L.length<2^60/\l.Told.L.length<2^60
theorem IH {l:aq}(h:asZ l):sM (Ez l) (Ez l)=some true:=by rw [Xd _ _ h.1 h.2.1 h.2.2,decide_eq_true rfl]
end Dn.S
