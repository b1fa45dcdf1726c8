import Derived.Test.YtmdlghpieagfhaaGreatDnPLearn3
/-
  Learners: what enough say alike is learned; LearnerLearns. Conditions: none.
-/
set_option linter.unusedVariables false
set_option linter.unusedSimpArgs false
set_option linter.unusedSectionVars false
open List renaming getElem_mem→fj
open Go Dn
namespace Dn.S
theorem afq {L:List aa}{a x:aa}(hs:pg vk L)(h:x∈(ek L a).1):x∈L\/(x=a/\rc a):=by
 unfold ek at h;split at h
 ·rename_i hc;rcases (BJ hs).1 h with h|h
  ·exact .inr ⟨h,hc.1⟩
  ·exact .inl h.1
 ·exact .inl h
theorem HQ {s:ak}{L:List aa}{last:Int}{a:aa}(h:Qa s L last)(hb:a.By<tF s)(hv:a.View<=last):Qa s (ek L a).1 last:=by
 refine ⟨λe he=> ?_,vD h.2⟩;rcases afq h.2.2 he with h1|⟨rfl,_⟩
 ·exact h.1 e h1
 ·exact ⟨hb,hv⟩
theorem Qc {L:List aa}{bY:Int}{z:aa}(h:kH L bY=some z):z∈L/\1<=bY/\bY<=(AB L z.View z.Value:Int):=by have:=Er L bY;rw [h] at this;refine ⟨this.1,?_⟩;have h2:=this.2.1;unfold nQ at h2;simpa using h2
theorem vJ {l:aq}(h:kJ l)(t:List aa)(ht: ∀e∈t,rc e)(n:Int):kJ (ic l t n):=by
 unfold ic;cases hb:kH t n with
 |none=>exact h
 |some z=>exact ⟨h.sz,(ht z (Qc hb).1).2.2.2,λh=>(by cases h),h.acc,h.com,h.told⟩
theorem tp {l:aq}{a:aa}(h: ¬iu l a):l.bE=false/\a.By<tF l.S/\rc a:=by
 refine ⟨?_,?_,?_⟩
 ·cases hd:l.bE with
  |false=>rfl
  |true=>exact absurd (.inl hd) h
 ·exact Int.lt_of_not_ge λh'=>h (.inr (.inl h'))
 ·exact Decidable.byContradiction λh'=>h (.inr (.inr h'))
theorem Al {l:aq}(h:kJ l)(a:aa):kJ (fb l a):=by
 unfold fb;by_cases hd:iu l a
 ·rw [if_pos hd];exact h
 ·rw [if_neg hd];obtain ⟨h0,h1,h2⟩:=tp hd;have hw:=HQ h.acc h1 h2.2.2.1;exact vJ (l:=⟨l.S,⟨(ek l.aO.L a).1⟩,l.aP,l.Told,l.bE,l.Value⟩) ⟨h.sz,h.len,h.val,hw,h.com,h.told⟩ _ hw.2.1 _
theorem U9 {l:aq}(h:kJ l)(jg:Int)(v:List UInt8):kJ (DF l jg v):=by
 unfold DF;by_cases hd:iu l ⟨jg,0,v⟩
 ·rw [if_pos hd];exact h
 ·rw [if_neg hd];obtain ⟨h0,h1,h2⟩:=tp hd;have hw:=HQ (a:=⟨jg,0,v⟩) h.told h1 (Int.le_refl 0);exact vJ (l:=⟨l.S,l.aO,l.aP,⟨(ek l.Told.L ⟨jg,0,v⟩).1⟩,l.bE,l.Value⟩) ⟨h.sz,h.len,h.val,h.acc,h.com,hw⟩ _ hw.2.1 _
theorem HR {l:aq}(h:kJ l)(jg:Int)(p:List aa):kJ (jZ l jg p):=by
 unfold jZ;split
 ·cases p with
  |nil=>exact h
  |cons x r=>
   dsimp only;by_cases hd:iu l ⟨jg,x.View,x.Value⟩
   ·rw [if_pos hd];exact h
   ·rw [if_neg hd];obtain ⟨h0,h1,h2⟩:=tp hd;have hw:=HQ (a:=⟨jg,x.View,x.Value⟩) h.com h1 h2.2.2.1;exact vJ (l:=⟨l.S,l.aO,⟨(ek l.aP.L ⟨jg,x.View,x.Value⟩).1⟩,l.Told,l.bE,l.Value⟩) ⟨h.sz,h.len,h.val,h.acc,hw,h.told⟩ _ hw.2.1 _
 ·exact h
section
variable {s:ak}{fr v:Int}{x:List UInt8}(hs:cR s)(h0:0<=fr)(hv:0<=v)(XD:v<=100000)(hx:x.length<=6000)
include hs h0 hv XD hx
end
theorem ue {L:List aa}{s:ak}{last:Int}(hs:cR s)(h:Qa s L last):L.length<2^31:=by
 have h1:=hs.f1;have h2:=hs.t0;have h3:=hs.f5;have h4:=hs.tf;have: ∀k (hk:k<L.length),(k:Int)<=L[k].By:=by
  intro k;induction k with
  |zero=>intro hk;exact (h.2.1 _ (fj hk)).1
  |succ k ih=>intro hk;have h5:=ih (by omega);have h6:L[k].By<L[k+1].By:=pg.lt (key:=vk) h.2.2 hk (Nat.lt_succ_self k);omega
 by_cases hl:L.length=0
 ·omega
 ·have h5:=this (L.length-1) (by omega);have h6:=(h.1 _ (fj (show L.length-1<L.length by omega))).1;unfold tF at h6;omega
end Dn.S
