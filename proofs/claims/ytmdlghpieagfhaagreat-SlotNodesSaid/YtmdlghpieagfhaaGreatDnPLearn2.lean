import Derived.Test.YtmdlghpieagfhaaGreatDnPLearn
/-
  Learners: what they come to; LearnerTurns. Conditions: none.
-/
set_option linter.unusedVariables false
set_option linter.unusedSimpArgs false
open Go Dn
namespace Dn.S
theorem U6 {s:ak}(h:cR s):yc s=some (3 *s.F+s.T+1):=h.cases (λs=>yc s=some (3 *s.F+s.T+1)) (by decide+kernel)
theorem U7 {s:ak}(h:cR s):yd s=some (s.F+1):=h.cases (λs=>yd s=some (s.F+1)) (by decide+kernel)
theorem Xe {s:ak}(h:cR s):yk (vF s)=some (3 *s.F+s.T+1):=h.cases (λs=>yk (vF s)=some (3 *s.F+s.T+1)) (by decide+kernel)
theorem Xf {s:ak}(h:cR s):ym (vF s)=some (s.F+1):=h.cases (λs=>ym (vF s)=some (s.F+1)) (by decide+kernel)
def ic (l:aq)(t:List aa)(bY:Int):aq:=match kH t bY with
 |some z=>⟨l.S,l.aO,l.aP,l.Told,true,z.Value⟩
 |none=>l
def iu (l:aq)(a:aa):Prop:=l.bE=true\/tF l.S<=a.By\/ ¬rc a
instance (l:aq) (a:aa):Decidable (iu l a):=by unfold iu rc;infer_instance
theorem R3 (l:aq)(hs:cR l.S)(a:aa): (if l.bE then some true else if a.By<0 then some true else bd (qk l.S) λrA=>if rA<=a.By then some true else bd (lG a) λaY=>some (!aY))=some (decide (iu l a)):=by
 rw [vE hs,ar,wZ,ar];by_cases hd:l.bE=true
 ·rw [if_pos hd,decide_eq_true (show iu l a from .inl hd)]
 ·rw [if_neg hd];by_cases h0:a.By<0
  ·rw [if_pos h0,decide_eq_true (show iu l a from .inr (.inr λh=>by have:=h.1;omega))]
  ·rw [if_neg h0];by_cases h1:3 *l.S.F+2 *l.S.T+1<=a.By
   ·rw [if_pos h1,decide_eq_true (show iu l a from .inr (.inl (by unfold tF;exact h1)))]
   ·rw [if_neg h1];have Jv: ¬tF l.S<=a.By:=by unfold tF;exact h1
    by_cases h2:rc a
    ·rw [decide_eq_true h2,decide_eq_false (show¬iu l a from λh=>h.elim hd (λh=>h.elim Jv (λh=>h h2)))];rfl
    ·rw [decide_eq_false h2,decide_eq_true (show iu l a from .inr (.inr h2))];rfl
theorem rT {L:List aa}(h:qZ L):pg vk L:=h.2
theorem U8 {L:List aa}(h:qZ L)(a:aa): ∀e∈(ek L a).1,0<=e.View:=λe he=>((vD (a:=a) h).1 e he).2.1
theorem MY {L:List aa}(h:qZ L)(a:aa)(bY:Int)(hl:L.length<2^31):li ⟨(ek L a).1⟩ bY=some (ae3 (kH (ek L a).1 bY)):=GF bY (U8 h a) (by have:=yJ (L:=L) (a:=a);omega)
theorem ahW {L:List aa}{a:aa}(h: ¬rc a):ek L a=(L,false):=by unfold ek;rw [if_neg (λh'=>h h'.1)]
theorem z1 (l:aq)(t:List aa)(bY:Int)(hl:t.length<2^32):iP (Ez l) ⟨t⟩ bY=some (Ez (ic l t bY)):=by
 unfold iP ic;rw [Mx t bY hl,ar];cases kH t bY with
 |none=>rfl
 |some z=>rfl
def fb (l:aq)(a:aa):aq:=if iu l a then l else ic ⟨l.S,⟨(ek l.aO.L a).1⟩,l.aP,l.Told,l.bE,l.Value⟩ (ek l.aO.L a).1 (3 *l.S.F+l.S.T+1)
theorem IG {l:aq}(hr:kJ l)(hl:l.aO.L.length<2^31)(a:aa):iV l a=some (fb l a):=by
 unfold iV fb jb;rw [U6 hr.sz,ar,R3 l hr.sz,ar];by_cases h:iu l a
 ·rw [decide_eq_true h,if_pos rfl,ar,if_pos h];rfl
 ·have e1:iU l.aO a=some (⟨(ek l.aO.L a).1⟩,(ek l.aO.L a).2):=xa (L:=l.aO.L) (rT hr.acc.2) (by omega);rw [decide_eq_false h,if_neg (by decide),e1,ar,MY hr.acc.2 a _ hl,ar,ar,if_neg h];unfold ic;cases kH (ek l.aO.L a).1 (3 *l.S.F+l.S.T+1)<;>rfl
theorem MZ {l:aq}(hr:kJ l)(hl:l.aO.L.length<2^31)(a:aa):qz (Ez l) a=some (Ez (fb l a)):=by
 unfold qz fb;have eN:sL (Ez l).S=some (3 *l.S.F+2 *l.S.T+1):=uc hr.sz;have eF:yk (Ez l).S=some (3 *l.S.F+l.S.T+1):=Xe hr.sz;have eA:oS (Ez l).aO a=some (⟨(ek l.aO.L a).1⟩,(ek l.aO.L a).2):=CC (L:=l.aO.L) (rT hr.acc.2) (by omega);rw [eN,ar,eA,eF];show bd (if l.bE then some true else some (decide (3 *l.S.F+2 *l.S.T+1<=a.By))) _=_;have hlen:=yJ (L:=l.aO.L) (a:=a);cases hd:l.bE with
 |true=>rw [if_pos rfl,ar,if_pos rfl,if_pos (.inl hd)]
 |false=>
  rw [if_neg (by decide),ar];by_cases h1:3 *l.S.F+2 *l.S.T+1<=a.By
  ·rw [decide_eq_true h1,if_pos rfl,if_pos (.inr (.inl h1))]
  ·rw [decide_eq_false h1,if_neg (by decide),ar,uC,ar];by_cases h2:rc a
   ·have hdf: ¬iu l a:=by
     rintro (h|h|h)
     ·rw [hd] at h;cases h
     ·exact h1 h
     ·exact h h2
    rw [decide_eq_true h2,if_neg (by decide),ar,if_neg hdf];have:=z1 ⟨l.S,⟨(ek l.aO.L a).1⟩,l.aP,l.Told,l.bE,l.Value⟩ (ek l.aO.L a).1 (3 *l.S.F+l.S.T+1) (by omega);show bd (iP (Ez ⟨l.S,⟨(ek l.aO.L a).1⟩,l.aP,l.Told,l.bE,l.Value⟩) ⟨(ek l.aO.L a).1⟩ (3 *l.S.F+l.S.T+1)) _=_;rw [this,ar,hd]
   ·rw [decide_eq_false h2,if_pos (by decide),if_pos (.inr (.inr h2)),ahW h2];rfl
open Classical in
noncomputable def jZ (l:aq)(jg:Int)(p:List aa):aq:=if zW l.S p then (match p with
 |[]=>l
 |x::_=>if iu l ⟨jg,x.View,x.Value⟩ then l else ic ⟨l.S,l.aO,⟨(ek l.aP.L ⟨jg,x.View,x.Value⟩).1⟩,l.Told,l.bE,l.Value⟩ (ek l.aP.L ⟨jg,x.View,x.Value⟩).1 (2 *l.S.F+l.S.T+1)) else l
def DF (l:aq)(jg:Int)(value:List UInt8):aq:=if iu l ⟨jg,0,value⟩ then l else ic ⟨l.S,l.aO,l.aP,⟨(ek l.Told.L ⟨jg,0,value⟩).1⟩,l.bE,l.Value⟩ (ek l.Told.L ⟨jg,0,value⟩).1 (l.S.F+1)
theorem ahX {l:aq}(hr:kJ l)(hl:l.Told.L.length<2^31)(jg:Int)(value:List UInt8):qv l jg value=some (DF l jg value):=by
 unfold qv DF jd;rw [U7 hr.sz,ar,R3 l hr.sz,ar];by_cases h:iu l ⟨jg,0,value⟩
 ·rw [decide_eq_true h,if_pos rfl,ar,if_pos h];rfl
 ·have e1:iU l.Told ⟨jg,0,value⟩=some (⟨(ek l.Told.L ⟨jg,0,value⟩).1⟩,(ek l.Told.L ⟨jg,0,value⟩).2):=xa (L:=l.Told.L) (rT hr.told.2) (by omega);rw [decide_eq_false h,if_neg (by decide),e1,ar,MY hr.told.2 _ _ hl,ar,ar,if_neg h];unfold ic;cases kH (ek l.Told.L ⟨jg,0,value⟩).1 (l.S.F+1)<;>rfl
theorem Xg {l:aq}(hr:kJ l)(hl:l.Told.L.length<2^31)(jg:Int)(value:List UInt8):Bd (Ez l) jg value=some (Ez (DF l jg value)):=by
 unfold Bd DF;have eN:sL (Ez l).S=some (3 *l.S.F+2 *l.S.T+1):=uc hr.sz;have eF:ym (Ez l).S=some (l.S.F+1):=Xf hr.sz;have eA:oS (Ez l).Told ⟨jg,0,value⟩=some (⟨(ek l.Told.L ⟨jg,0,value⟩).1⟩,(ek l.Told.L ⟨jg,0,value⟩).2):=CC (L:=l.Told.L) (rT hr.told.2) (by omega);rw [eN,ar,eA,eF,ar,ar];have hlen:=yJ (L:=l.Told.L) (a:=⟨jg,0,value⟩);have hw:(if (Ez l).bE then some true else if jg<0 then some true else if 3 *l.S.F+2 *l.S.T+1<=jg then some true else some (decide ((6000:Int)<(value.length:Int))))=some (decide (iu l ⟨jg,0,value⟩)):=by
  show (if l.bE=true then some true else _)=_;by_cases hd:l.bE=true
  ·rw [if_pos hd,decide_eq_true (show iu l ⟨jg,0,value⟩ from .inl hd)]
  ·rw [if_neg hd];by_cases h0:jg<0
   ·rw [if_pos h0,decide_eq_true (show iu l ⟨jg,0,value⟩ from .inr (.inr λh=>by have:0<=jg:=h.1;omega))]
   ·rw [if_neg h0];by_cases h1:3 *l.S.F+2 *l.S.T+1<=jg
    ·rw [if_pos h1,decide_eq_true (show iu l ⟨jg,0,value⟩ from .inr (.inl (by unfold tF;exact h1)))]
    ·rw [if_neg h1];by_cases h2:(6000:Int)<(value.length:Int)
     ·rw [decide_eq_true h2,decide_eq_true (show iu l ⟨jg,0,value⟩ from .inr (.inr λh=>by have:value.length<=6000:=h.2.2.2;omega))]
     ·rw [decide_eq_false h2,decide_eq_false (p:=iu l ⟨jg,0,value⟩)];rintro (h|h|h)
      ·exact hd h
      ·exact h1 (by unfold tF at h;exact h)
      ·exact h ⟨show 0<=jg by omega,show (0:Int)<=0 by omega,show (0:Int)<=100000 by omega,show value.length<=6000 by omega⟩
 rw [hw,ar];by_cases h:iu l ⟨jg,0,value⟩
 ·rw [decide_eq_true h,if_pos rfl,if_pos h]
 ·rw [decide_eq_false h,if_neg (by decide),if_neg h];have:=z1 ⟨l.S,l.aO,l.aP,⟨(ek l.Told.L ⟨jg,0,value⟩).1⟩,l.bE,l.Value⟩ (ek l.Told.L ⟨jg,0,value⟩).1 (l.S.F+1) (by omega);show bd (iP (Ez ⟨l.S,l.aO,l.aP,⟨(ek l.Told.L ⟨jg,0,value⟩).1⟩,l.bE,l.Value⟩) ⟨(ek l.Told.L ⟨jg,0,value⟩).1⟩ (l.S.F+1)) _=_;rw [this,ar]
end Dn.S
